/- What functions of the program compute: forest40q -/
import Derived.Test.YtkgemkadebgeoaaBforest40p
import Derived.Test.YtkgemkadebgeoaaProg
import Derived.KernelRfl
set_option linter.unusedVariables false
set_option linter.unusedSimpArgs false
namespace Go.Proofs.Ytkgemkadebgeoaa
namespace A

/-! ### Who stands for a node -/
inductive Root (s : Int → Int) : Int → Int → Prop
  | here {r : Int} : s r = r → Root s r r
  | up {a r : Int} : s a ≠ a → Root s (s a) r → Root s a r
theorem Root.fix {s : Int → Int} {a r : Int} (h : Root s a r) : s r = r := by
  induction h with
  | here h => exact h
  | up _ _ ih => exact ih
theorem Root.det {s : Int → Int} {a r r' : Int} (h : Root s a r) (h' : Root s a r') : r = r' := by
  induction h with
  | here h =>
    cases h' with
    | here _ => rfl
    | up h2 _ => exact absurd h h2
  | up h1 _ ih =>
    cases h' with
    | here h2 => exact absurd h2 h1
    | up _ h2 => exact ih h2
structure Pot (d : Int → Nat) (s : Int → Int) : Prop where
  rng : ∀ n, 0 ≤ n → n ≤ 64 → 0 ≤ s n ∧ s n ≤ 64
  lt : ∀ n, 0 ≤ n → n ≤ 64 → s n ≠ n → d (s n) < d n
theorem Pot.root {d : Int → Nat} {s : Int → Int} (p : Pot d s) : ∀ (k : Nat) (a : Int), d a < k → 0 ≤ a → a ≤ 64 → ∃ r, Root s a r ∧ 0 ≤ r ∧ r ≤ 64
  | 0, a, h, _, _ => by omega
  | k + 1, a, h, h0, h1 => by
    by_cases hs : s a = a
    · exact ⟨a, .here hs, h0, h1⟩
    · have h2 := p.lt a h0 h1 hs
      have h3 := p.rng a h0 h1
      obtain ⟨r, hr, hr2⟩ := p.root k (s a) (by omega) h3.1 h3.2
      exact ⟨r, .up hs hr, hr2⟩
theorem Root.rng {d : Int → Nat} {s : Int → Int} (p : Pot d s) {a r : Int} (h0 : 0 ≤ a) (h1 : a ≤ 64) (h : Root s a r) : 0 ≤ r ∧ r ≤ 64 := by
  obtain ⟨r', h2, h3⟩ := p.root (d a + 1) a (by omega) h0 h1
  rw [h.det h2]
  exact h3
theorem halve {d : Int → Nat} {s : Int → Int} (p : Pot d s) {n : Int} (h0 : 0 ≤ n) (h1 : n ≤ 64) (hn : s n ≠ n) :
    Pot d (updF s n (s (s n))) ∧ (∀ a r, 0 ≤ a → a ≤ 64 → (Root (updF s n (s (s n))) a r ↔ Root s a r)) ∧ d (s (s n)) < d n := by
  have h2 := p.rng n h0 h1
  have h3 := p.rng (s n) h2.1 h2.2
  have h4 := p.lt n h0 h1 hn
  have hd : d (s (s n)) < d n := by
    by_cases h : s (s n) = s n
    · rw [h]; exact h4
    · have := p.lt (s n) h2.1 h2.2 h; omega
  have hpn : s (s n) ≠ n := fun e => by rw [e] at hd; omega
  have hp : Pot d (updF s n (s (s n))) := ⟨fun m hm0 hm1 => by
    by_cases hm : m = n
    · subst hm; rw [updF_same]; exact h3
    · rw [updF_ne _ _ hm]; exact p.rng m hm0 hm1, fun m hm0 hm1 hne => by
    by_cases hm : m = n
    · subst hm; rw [updF_same]; exact hd
    · rw [updF_ne _ _ hm] at hne ⊢; exact p.lt m hm0 hm1 hne⟩
  have fwd : ∀ a r, Root s a r → Root (updF s n (s (s n))) a r := by
    intro a r h
    induction h with
    | @here r h => exact .here (by rw [updF_ne _ _ (fun e => by subst e; exact hn h)]; exact h)
    | @up a r ha hr ih =>
      by_cases han : a = n
      · subst han
        refine .up (by rw [updF_same]; exact hpn) ?_
        rw [updF_same]
        by_cases h : s (s a) = s a
        · simpa only [h] using ih
        · cases ih with
          | here h5 => rw [updF_ne _ _ hn] at h5; exact absurd h5 h
          | up _ h5 => rw [updF_ne _ _ hn] at h5; exact h5
      · exact .up (by rw [updF_ne _ _ han]; exact ha) (by rw [updF_ne _ _ han]; exact ih)
  refine ⟨hp, fun a r ha0 ha1 => ⟨fun h => ?_, fwd a r⟩, hd⟩
  obtain ⟨r', hr', _⟩ := p.root (d a + 1) a (by omega) ha0 ha1
  rw [h.det (fwd a r' hr')]
  exact hr'
/-- s tells what hangs together by E. -/
structure UF (E : Edge → Prop) (s : Int → Int) : Prop where
  pot : ∃ d, Pot d s
  conn : ∀ a b, 0 ≤ a → a ≤ 64 → 0 ≤ b → b ≤ 64 → ((∃ r, Root s a r ∧ Root s b r) ↔ Conn E a b)
theorem UF.same {E : Edge → Prop} {s s' : Int → Int} (u : UF E s) (hp : ∃ d, Pot d s') (h : ∀ a r, 0 ≤ a → a ≤ 64 → (Root s' a r ↔ Root s a r)) : UF E s' :=
  ⟨hp, fun a b ha0 ha1 hb0 hb1 => by rw [← u.conn a b ha0 ha1 hb0 hb1]; exact ⟨fun ⟨r, h1, h2⟩ => ⟨r, (h a r ha0 ha1).1 h1, (h b r hb0 hb1).1 h2⟩, fun ⟨r, h1, h2⟩ => ⟨r, (h a r ha0 ha1).2 h1, (h b r hb0 hb1).2 h2⟩⟩⟩
theorem conn_none {a b : Int} (h : Conn (fun _ => False) a b) : a = b := by
  cases h with
  | refl => rfl
  | up _ h _ => exact h.elim
  | down _ h _ => exact h.elim
theorem uf_new : UF (fun _ => False) (fun n => n) where
  pot := ⟨fun _ => 0, ⟨fun n h0 h1 => ⟨h0, h1⟩, fun n _ _ h => absurd rfl h⟩⟩
  conn := fun a b _ _ _ _ => ⟨fun ⟨r, h1, h2⟩ => by
    have e1 : a = r := by cases h1 with | here _ => rfl | up h _ => exact absurd rfl h
    have e2 : b = r := by cases h2 with | here _ => rfl | up h _ => exact absurd rfl h
    rw [e1, e2]; exact .refl _, fun h => ⟨a, .here rfl, by rw [← conn_none h]; exact .here rfl⟩⟩
theorem join_same {E : Edge → Prop} {s : Int → Int} (u : UF E s) {e : Edge} (he : EOk e) {x : Int} (hx : Root s e.a x) (hy : Root s e.b x) : UF (fun z => E z ∨ z = e) (updF s x x) := by
  have hs : updF s x x = s := by
    funext i
    by_cases h : i = x
    · subst h; rw [updF_same, hx.fix]
    · rw [updF_ne _ _ h]
  rw [hs]
  unfold EOk at he
  have hab : Conn E e.a e.b := (u.conn e.a e.b (by omega) (by omega) (by omega) (by omega)).1 ⟨x, hx, hy⟩
  refine ⟨u.pot, fun a b ha0 ha1 hb0 hb1 => ?_⟩
  rw [u.conn a b ha0 ha1 hb0 hb1]
  refine ⟨fun h => h.mono (fun _ h => .inl h), fun h => h.sub (fun z hz => ?_)⟩
  rcases hz with hz | rfl
  · exact Conn.edge hz
  · exact hab
theorem join_root {s : Int → Int} {x y : Int} (hx : s x = x) (hy : s y = y) (hxy : x ≠ y) {a r : Int} (h : Root s a r) : Root (updF s x y) a (if r = x then y else r) := by
  have hyy : updF s x y y = y := by rw [updF_ne _ _ (fun e => hxy e.symm), hy]
  induction h with
  | @here r h =>
    by_cases hr : r = x
    · subst hr
      rw [if_pos rfl]
      refine .up (by rw [updF_same]; exact fun e => hxy e.symm) ?_
      rw [updF_same]
      exact .here hyy
    · rw [if_neg hr]
      exact .here (by rw [updF_ne _ _ hr]; exact h)
  | @up a r ha _ ih =>
    have hax : a ≠ x := fun e => by subst e; exact ha hx
    exact .up (by rw [updF_ne _ _ hax]; exact ha) (by rw [updF_ne _ _ hax]; exact ih)
theorem join_new {E : Edge → Prop} {s : Int → Int} (u : UF E s) {e : Edge} (he : EOk e) {x y : Int} (hx : Root s e.a x) (hy : Root s e.b y) (hxy : x ≠ y) : UF (fun z => E z ∨ z = e) (updF s x y) := by
  obtain ⟨d, p⟩ := u.pot
  unfold EOk at he
  have hxr := hx.rng p (by omega) (by omega)
  have hyr := hy.rng p (by omega) (by omega)
  have hsx := hx.fix
  have hsy := hy.fix
  have hpot : ∃ d, Pot d (updF s x y) := by
    -- those that x stands for are lifted above y
    have hdec : ∀ a, ∃ v : Nat, (Root s a x → v = d a + d y + 1) ∧ (¬ Root s a x → v = d a) := fun a => by
      by_cases h : Root s a x
      · exact ⟨_, fun _ => rfl, fun h2 => absurd h h2⟩
      · exact ⟨_, fun h2 => absurd h2 h, fun _ => rfl⟩
    have hch : ∃ d' : Int → Nat, ∀ a, (Root s a x → d' a = d a + d y + 1) ∧ (¬ Root s a x → d' a = d a) := ⟨fun a => Classical.choose (hdec a), fun a => Classical.choose_spec (hdec a)⟩
    obtain ⟨d', hd'⟩ := hch
    refine ⟨d', ⟨fun m hm0 hm1 => ?_, fun m hm0 hm1 hne => ?_⟩⟩
    · by_cases hm : m = x
      · subst hm; rw [updF_same]; exact hyr
      · rw [updF_ne _ _ hm]; exact p.rng m hm0 hm1
    · by_cases hm : m = x
      · subst hm
        rw [updF_same]
        have hny : ¬ Root s y m := fun h => hxy ((h.det (.here hsy)))
        rw [(hd' y).2 hny, (hd' m).1 (.here hsx)]
        omega
      · rw [updF_ne _ _ hm] at hne ⊢
        have hl := p.lt m hm0 hm1 hne
        by_cases hr : Root s (s m) x
        · rw [(hd' _).1 hr, (hd' _).1 (.up hne hr)]
          omega
        · rw [(hd' _).2 hr, (hd' _).2 (fun h => hr (by
            cases h with
            | here h2 => exact absurd h2 hne
            | up _ h2 => exact h2))]
          exact hl
  refine ⟨hpot, fun a b ha0 ha1 hb0 hb1 => ?_⟩
  obtain ⟨ra, hra, hra2⟩ := p.root (d a + 1) a (by omega) ha0 ha1
  obtain ⟨rb, hrb, hrb2⟩ := p.root (d b + 1) b (by omega) hb0 hb1
  have ja := join_root hsx hsy hxy hra
  have jb := join_root hsx hsy hxy hrb
  have cn : ∀ {u' v ru rv}, Root s u' ru → Root s v rv → 0 ≤ u' → u' ≤ 64 → 0 ≤ v → v ≤ 64 → (ru = rv ↔ Conn E u' v) := fun hu hv h1 h2 h3 h4 => by
    rw [← u.conn _ _ h1 h2 h3 h4]
    exact ⟨fun e => ⟨_, hu, by rw [e]; exact hv⟩, fun ⟨r, h5, h6⟩ => by rw [hu.det h5, hv.det h6]⟩
  constructor
  · rintro ⟨r, h1, h2⟩
    have e1 := h1.det ja
    have e2 := h2.det jb
    have key : (if ra = x then y else ra) = (if rb = x then y else rb) := e1.symm.trans e2
    have ax := cn hra hx ha0 ha1 (by omega) (by omega)
    have ay := cn hra hy ha0 ha1 (by omega) (by omega)
    have bx := cn hrb hx hb0 hb1 (by omega) (by omega)
    have by' := cn hrb hy hb0 hb1 (by omega) (by omega)
    have ab := cn hra hrb ha0 ha1 hb0 hb1
    have up : ∀ {a b}, Conn E a b → Conn (fun z => E z ∨ z = e) a b := fun h => h.mono (fun _ h => .inl h)
    have ee : Conn (fun z => E z ∨ z = e) e.a e.b := Conn.edge (.inr rfl)
    by_cases h3 : ra = x
    · by_cases h4 : rb = x
      · exact up (ab.1 (h3.trans h4.symm))
      · rw [if_pos h3, if_neg h4] at key
        exact ((up (ax.1 h3)).trans ee).trans (up (by'.1 key.symm)).symm
    · by_cases h4 : rb = x
      · rw [if_neg h3, if_pos h4] at key
        exact ((up (ay.1 key)).trans ee.symm).trans (up (bx.1 h4)).symm
      · rw [if_neg h3, if_neg h4] at key
        exact up (ab.1 key)
  · intro h
    have ax := cn hra hx ha0 ha1 (by omega) (by omega)
    have ay := cn hra hy ha0 ha1 (by omega) (by omega)
    have bx := cn hrb hx hb0 hb1 (by omega) (by omega)
    have by' := cn hrb hy hb0 hb1 (by omega) (by omega)
    have ab := cn hra hrb ha0 ha1 hb0 hb1
    rcases h.add with h | ⟨h1, h2⟩ | ⟨h1, h2⟩
    · have := ab.2 h; subst this; exact ⟨_, ja, jb⟩
    · have e1 := ax.2 h1
      have e2 := by'.2 h2.symm
      refine ⟨y, ?_, ?_⟩
      · rw [if_pos e1] at ja; exact ja
      · rw [if_neg (fun e => hxy (e.symm.trans e2)), e2] at jb; exact jb
    · have e1 := ay.2 h1
      have e2 := bx.2 h2.symm
      refine ⟨y, ?_, ?_⟩
      · rw [if_neg (fun e => hxy (e.symm.trans e1)), e1] at ja; exact ja
      · rw [if_pos e2] at jb; exact jb

/-! ### Which edges are taken -/
def allE : Edge → Bool := fun _ => true
/-- Is an edge of the forest of l? -/
def inF (l : List Edge) (e : Edge) : Bool := !(reachF allE (l.filter fun x => ahead x e) e.a true e.b)
theorem ahead_trans {x y z : Edge} (h1 : ahead x y = true) (h2 : ahead y z = true) : ahead x z = true := by
  unfold ahead at *
  split at h1 <;> split at h2 <;> split <;> simp only [Bool.or_eq_true, Bool.and_eq_true, decide_eq_true_eq] at * <;> omega
theorem ahead_irrefl {x : Edge} : ahead x x = false := by simp [ahead]
theorem ahead_le {x y : Edge} (h : ahead x y = true) : x.c ≤ y.c := by
  unfold ahead at h
  split at h
  · simp at h; omega
  · omega
theorem ahead_asymm {x y : Edge} (h : ahead x y = true) : ahead y x = false := by
  cases h2 : ahead y x with
  | false => rfl
  | true => have := ahead_trans h h2; rw [ahead_irrefl] at this; cases this
/-- l in the order in which edges are taken: what lies ahead of one is what is ahead of it. -/
structure Cheap (l ch : List Edge) : Prop where
  ok : ∀ e ∈ l, edgeB e = true
  p : ch.Perm l
  s : ch.Pairwise fun x y => ahead x y = true
theorem Cheap.at {l ch P R : List Edge} {e : Edge} (c : Cheap l ch) (h : ch = P ++ e :: R) (x : Edge) : (x ∈ l ∧ ahead x e = true) ↔ x ∈ P := by
  have hs := c.s
  rw [h, List.pairwise_append] at hs
  obtain ⟨_, h2, h3⟩ := hs
  have hm : x ∈ l ↔ x ∈ ch := c.p.mem_iff.symm
  rw [hm, h, List.mem_append]
  constructor
  · rintro ⟨h4 | h4, h5⟩
    · exact h4
    · rcases List.mem_cons.1 h4 with rfl | h4
      · rw [ahead_irrefl] at h5; cases h5
      · rw [ahead_asymm ((List.pairwise_cons.1 h2).1 x h4)] at h5; cases h5
  · exact fun h4 => ⟨.inl h4, h3 x h4 e (by simp)⟩
theorem Cheap.inF {l ch P R : List Edge} {e : Edge} (c : Cheap l ch) (h : ch = P ++ e :: R) : inF l e = true ↔ ¬ Conn (· ∈ P) e.a e.b := by
  have he : edgeB e = true := c.ok e (c.p.mem_iff.1 (by rw [h]; simp))
  have hl : ∀ x ∈ l.filter (fun x => ahead x e), EOk x := fun x hx => EOk.of (c.ok x (List.mem_filter.1 hx).1)
  have hb := edgeB_mk he
  have hi := reachF_iff (ok := allE) hl (n := e.a) (by omega) (by omega) (i := e.b)
  have hE : (fun x => x ∈ l.filter (fun x => ahead x e) ∧ allE x = true) = (· ∈ P) := by
    funext x
    apply propext
    rw [← c.at h x, List.mem_filter]
    simp [allE]
  rw [hE] at hi
  rw [← hi]
  show (!(reachF allE (l.filter fun x => ahead x e) e.a true e.b)) = true ↔ _
  cases reachF allE (l.filter fun x => ahead x e) e.a true e.b <;> simp
theorem Cheap.ok' {l ch : List Edge} (c : Cheap l ch) {e : Edge} (h : e ∈ ch) : EOk e := EOk.of (c.ok e (c.p.mem_iff.1 h))
/-- The forest holds together what all edges do. -/
theorem Cheap.span {l ch : List Edge} (c : Cheap l ch) : ∀ (R P : List Edge), ch = P ++ R → (∀ e ∈ P, Conn (· ∈ P.filter (A.inF l)) e.a e.b) → ∀ e ∈ ch, Conn (· ∈ ch.filter (A.inF l)) e.a e.b
  | [], P, h, hP => by rw [List.append_nil] at h; subst h; exact hP
  | e :: R, P, h, hP => by
    refine c.span R (P ++ [e]) (by rw [h]; simp) (fun x hx => ?_)
    rw [List.filter_append]
    rcases List.mem_append.1 hx with hx | hx
    · exact (hP x hx).mono (fun z hz => List.mem_append_left _ hz)
    · obtain rfl := List.mem_singleton.1 hx
      cases hf : A.inF l x with
      | true => exact Conn.edge (E := (· ∈ _)) (List.mem_append_right _ (by simp [hf]))
      | false =>
        have : Conn (· ∈ P) x.a x.b := Classical.byContradiction fun hn => by
          have := (c.inF h).2 hn
          rw [hf] at this; cases this
        exact (this.sub hP).mono (fun z hz => List.mem_append_left _ hz)
theorem Cheap.spans {l ch : List Edge} (c : Cheap l ch) {a b : Int} : Conn (· ∈ ch.filter (A.inF l)) a b ↔ Conn (· ∈ l) a b := by
  constructor
  · exact fun h => h.mono (fun x hx => c.p.mem_iff.1 (List.mem_filter.1 hx).1)
  · exact fun h => h.sub (fun x hx => c.span ch [] rfl (fun e he => by simp at he) x (c.p.mem_iff.2 hx))
/-- It has no ring. -/
theorem Cheap.ring {l ch : List Edge} (c : Cheap l ch) : ∀ (R P : List Edge), ch = P ++ R → (∀ e ∈ P.filter (A.inF l), ¬ Conn (fun x => x ∈ P.filter (A.inF l) ∧ x ≠ e) e.a e.b) → ∀ e ∈ ch.filter (A.inF l), ¬ Conn (fun x => x ∈ ch.filter (A.inF l) ∧ x ≠ e) e.a e.b
  | [], P, h, hP => by rw [List.append_nil] at h; subst h; exact hP
  | e :: R, P, h, hP => by
    refine c.ring R (P ++ [e]) (by rw [h]; simp) ?_
    rw [List.filter_append]
    cases hf : A.inF l e with
    | false =>
      rw [show [e].filter (A.inF l) = [] by simp [hf], List.append_nil]
      exact hP
    | true =>
      rw [show [e].filter (A.inF l) = [e] by simp [hf]]
      have hne := (c.inF h).1 hf
      have hsub : ∀ {a b}, Conn (· ∈ P.filter (A.inF l)) a b → Conn (· ∈ P) a b := fun k => k.mono (fun z hz => (List.mem_filter.1 hz).1)
      have heP : e ∉ P := fun hm => hne (Conn.edge hm)
      intro x hx hcon
      rcases List.mem_append.1 hx with hx | hx
      · have h1 : Conn (fun z => (z ∈ P.filter (A.inF l) ∧ z ≠ x) ∨ z = e) x.a x.b := hcon.mono (fun z hz => by
          rcases List.mem_append.1 hz.1 with h2 | h2
          · exact .inl ⟨h2, hz.2⟩
          · exact .inr (List.mem_singleton.1 h2))
        have up : ∀ {a b}, Conn (fun z => z ∈ P.filter (A.inF l) ∧ z ≠ x) a b → Conn (· ∈ P) a b := fun k => hsub (k.mono (fun z hz => hz.1))
        have hxe : Conn (· ∈ P) x.a x.b := hsub (Conn.edge hx)
        rcases h1.add with h2 | ⟨h2, h3⟩ | ⟨h2, h3⟩
        · exact hP x hx h2
        · exact hne ((up h2).symm.trans (hxe.trans (up h3).symm))
        · exact hne ((up h3).trans (hxe.symm.trans (up h2)))
      · obtain rfl := List.mem_singleton.1 hx
        refine hne (hsub (hcon.mono (fun z hz => ?_)))
        rcases List.mem_append.1 hz.1 with h2 | h2
        · exact h2
        · exact absurd (List.mem_singleton.1 h2) hz.2
theorem Cheap.noring {l ch : List Edge} (c : Cheap l ch) : ∀ e ∈ ch.filter (A.inF l), ¬ Conn (fun x => x ∈ ch.filter (A.inF l) ∧ x ≠ e) e.a e.b :=
  c.ring ch [] rfl (fun e he => by simp at he)
/-- An edge that closes a ring may be taken in place of another one. -/
theorem exchange {B : Edge → Prop} {e : Edge} : ∀ {L : List Edge}, ¬ Conn B e.a e.b → Conn (fun x => B x ∨ x ∈ L) e.a e.b → ∃ g ∈ L, Conn (fun x => (B x ∨ x = e) ∨ (x ∈ L ∧ x ≠ g)) g.a g.b
  | [], hn, h => absurd (h.mono (fun x hx => by simpa using hx)) hn
  | g :: L, hn, h => by
    by_cases h1 : Conn (fun x => B x ∨ x ∈ L) e.a e.b
    · obtain ⟨g', hg', hc⟩ := exchange hn h1
      exact ⟨g', by simp [hg'], hc.mono (fun x hx => by
        rcases hx with h | ⟨h, h2⟩
        · exact .inl h
        · exact .inr ⟨by simp [h], h2⟩)⟩
    · have hgL : g ∉ L := fun hm => h1 (h.mono (fun x hx => by
        rcases hx with h | h
        · exact .inl h
        · rcases List.mem_cons.1 h with rfl | h
          · exact .inr hm
          · exact .inr h))
      have h2 : Conn (fun x => (B x ∨ x ∈ L) ∨ x = g) e.a e.b := h.mono (fun x hx => by
        rcases hx with h | h
        · exact .inl (.inl h)
        · rcases List.mem_cons.1 h with rfl | h
          · exact .inr rfl
          · exact .inl (.inr h))
      have up : ∀ {a b}, Conn (fun x => B x ∨ x ∈ L) a b → Conn (fun x => (B x ∨ x = e) ∨ (x ∈ g :: L ∧ x ≠ g)) a b := fun k => k.mono (fun x hx => by
        rcases hx with h | h
        · exact .inl (.inl h)
        · exact .inr ⟨by simp [h], fun e => hgL (by rw [← e]; exact h)⟩)
      have ee : Conn (fun x => (B x ∨ x = e) ∨ (x ∈ g :: L ∧ x ≠ g)) e.a e.b := Conn.edge (.inl (.inr rfl))
      refine ⟨g, by simp, ?_⟩
      rcases h2.add with h3 | ⟨h3, h4⟩ | ⟨h3, h4⟩
      · exact absurd h3 h1
      · exact (up h3).symm.trans (ee.trans (up h4).symm)
      · exact (up h4).trans (ee.symm.trans (up h3))
def costE (l : List Edge) : Int := (l.map (·.c)).sum
theorem cost_cons (e : Edge) (l : List Edge) : costE (e :: l) = e.c + costE l := by simp [costE]
theorem cost_drop {S : Edge → Bool} {g : Edge} : ∀ {R : List Edge}, R.Nodup → g ∈ R → S g = true → costE (R.filter S) = g.c + costE (R.filter fun x => S x && decide (x ≠ g))
  | [], _, h, _ => by simp at h
  | x :: R, hn, hg, hs => by
    have hn' := List.nodup_cons.1 hn
    by_cases hx : x = g
    · subst hx
      rw [List.filter_cons_of_pos hs, cost_cons, List.filter_cons_of_neg (by simp)]
      congr 2
      apply List.filter_congr
      intro y hy
      have : y ≠ x := fun e => hn'.1 (by rw [← e]; exact hy)
      simp [this]
    · have hg' : g ∈ R := by rcases List.mem_cons.1 hg with h | h; exact absurd h.symm hx; exact h
      have ih := cost_drop (S := S) hn'.2 hg' hs
      cases hsx : S x with
      | true =>
        rw [List.filter_cons_of_pos hsx, List.filter_cons_of_pos (by simp [hsx, hx]), cost_cons, cost_cons, ih]
        omega
      | false =>
        rw [List.filter_cons_of_neg (by simp [hsx]), List.filter_cons_of_neg (by simp [hsx]), ih]
theorem Cheap.least {l ch : List Edge} (c : Cheap l ch) : ∀ (R P : List Edge) (S : Edge → Bool), ch = P ++ R → (∀ a b, Conn (fun x => x ∈ P ∨ x ∈ R) a b → Conn (fun x => x ∈ P ∨ x ∈ R.filter S) a b) → costE (R.filter (A.inF l)) ≤ costE (R.filter S)
  | [], _, _, _, _ => by simp
  | e :: R, P, S, h, hS => by
    have hs := c.s
    rw [h, List.pairwise_append] at hs
    have hse := List.pairwise_cons.1 hs.2.1
    have hnd : R.Nodup := hse.2.imp (fun h e => by subst e; rw [ahead_irrefl] at h; cases h)
    have heR : e ∉ R := fun hm => by have := hse.1 e hm; rw [ahead_irrefl] at this; cases this
    have hc1 : 1 ≤ e.c := (edgeB_mk (c.ok e (c.p.mem_iff.1 (by rw [h]; simp)))).2.2.2.1
    have h' : ch = (P ++ [e]) ++ R := by rw [h]; simp
    -- what is left to be spanned, by whatever S' is left
    have rest : ∀ S' : Edge → Bool, (∀ x ∈ R, S x = true → Conn (fun y => y ∈ P ++ [e] ∨ y ∈ R.filter S') x.a x.b) → ∀ a b, Conn (fun x => x ∈ P ++ [e] ∨ x ∈ R) a b → Conn (fun x => x ∈ P ++ [e] ∨ x ∈ R.filter S') a b := fun S' hS' a b hab => by
      have h1 := hS a b (hab.mono (fun x hx => by
        rcases hx with hx | hx
        · rcases List.mem_append.1 hx with hx | hx
          · exact .inl hx
          · exact .inr (by rw [List.mem_singleton.1 hx]; simp)
        · exact .inr (by simp [hx])))
      refine h1.sub (fun x hx => ?_)
      rcases hx with hx | hx
      · exact Conn.edge (.inl (by simp [hx]))
      · obtain ⟨hx1, hx2⟩ := List.mem_filter.1 hx
        rcases List.mem_cons.1 hx1 with rfl | hx1
        · exact Conn.edge (.inl (by simp))
        · exact hS' x hx1 hx2
    have same := rest S (fun x hx hs => Conn.edge (.inr (List.mem_filter.2 ⟨hx, hs⟩)))
    cases hse' : S e with
    | true =>
      have ih := c.least R (P ++ [e]) S h' same
      rw [List.filter_cons_of_pos (p := S) hse', cost_cons]
      cases hf : A.inF l e with
      | true => rw [List.filter_cons_of_pos hf, cost_cons]; omega
      | false => rw [List.filter_cons_of_neg (by simp [hf])]; omega
    | false =>
      rw [List.filter_cons_of_neg (p := S) (by simp [hse'])]
      cases hf : A.inF l e with
      | false => rw [List.filter_cons_of_neg (by simp [hf])]; exact c.least R (P ++ [e]) S h' same
      | true =>
        have hn := (c.inF h).1 hf
        have h1 : Conn (fun x => x ∈ P ∨ x ∈ R.filter S) e.a e.b := by
          have := hS e.a e.b (Conn.edge (.inr (by simp)))
          rwa [List.filter_cons_of_neg (p := S) (by simp [hse'])] at this
        obtain ⟨q, hq, hqc⟩ := exchange (B := (· ∈ P)) hn h1
        obtain ⟨hq1, hq2⟩ := List.mem_filter.1 hq
        have ih := c.least R (P ++ [e]) (fun x => S x && decide (x ≠ q)) h' (rest _ (fun x hx hs => by
          by_cases hxq : x = q
          · subst hxq
            refine hqc.mono (fun y hy => ?_)
            rcases hy with hy | ⟨hy, hy2⟩
            · exact .inl (by rcases hy with h | rfl; simp [h]; simp)
            · exact .inr (List.mem_filter.2 ⟨(List.mem_filter.1 hy).1, by simp [(List.mem_filter.1 hy).2, hy2]⟩)
          · exact Conn.edge (.inr (List.mem_filter.2 ⟨hx, by simp [hs, hxq]⟩))))
        rw [List.filter_cons_of_pos hf, cost_cons, cost_drop (S := S) hnd hq1 hq2]
        have := ahead_le (hse.1 q hq1)
        omega
theorem costE_perm {a b : List Edge} (h : a.Perm b) : costE a = costE b := by
  induction h with
  | nil => rfl
  | cons x _ ih => rw [cost_cons, cost_cons, ih]
  | swap x y l => rw [cost_cons, cost_cons, cost_cons, cost_cons]; omega
  | trans _ _ ih1 ih2 => rw [ih1, ih2]
theorem costE_range : ∀ {l : List Edge}, (∀ e ∈ l, edgeB e = true) → 0 ≤ costE l ∧ costE l ≤ l.length * 1073741824
  | [], _ => by simp [costE]
  | e :: l, h => by
    have h1 := edgeB_mk (h e (by simp))
    have ih := costE_range (l := l) (fun x hx => h x (by simp [hx]))
    rw [cost_cons, List.length_cons]
    omega

end A
end Go.Proofs.Ytkgemkadebgeoaa
