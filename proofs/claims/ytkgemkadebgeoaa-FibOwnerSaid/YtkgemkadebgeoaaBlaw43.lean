/- What functions of the program compute: law43 -/
import Derived.Test.YtkgemkadebgeoaaBfib43f
import Derived.Test.YtkgemkadebgeoaaProg
import Derived.KernelRfl
set_option linter.unusedVariables false
set_option linter.unusedSimpArgs false
namespace Go.Proofs.Ytkgemkadebgeoaa
namespace A

theorem us_113 : Try.prog.underlying 113 = some (.slice 125) := by kernel_rfl
def inE (b : Nat) (n : Int) (a : Nat) : Bool := b / 2 ^ (32 - n.toNat) == a / 2 ^ (32 - n.toNat)
theorem ref41_WithinI {b : Nat} {n : Int} {a : Nat} (hb : b < 2 ^ 32) (ha : a < 2 ^ 32) (h : okP b n = true) : Triple Try.prog 66 [.agg (pfxC b n), u32 a] [] (Is (.v (.bool (inE b n a))) []) := by
  obtain ⟨m, rfl, hm⟩ := okP_nat h
  exact ref41_Within b m a hb ha hm
theorem find_spec {a : Nat} : ∀ (l : List Ent) (best : Ent), (∀ x ∈ l, x.tv ≠ 0) → (refFind l a best = best ∨ (refFind l a best ∈ l ∧ within (refFind l a best) a = true)) ∧ (∀ x ∈ l, within x a = true → (refFind l a best).tv ≠ 0 ∧ x.n ≤ (refFind l a best).n) ∧ (best.tv ≠ 0 → (refFind l a best).tv ≠ 0 ∧ best.n ≤ (refFind l a best).n)
  | [], best, _ => ⟨.inl rfl, fun x hx => by simp at hx, fun h => ⟨h, Nat.le_refl _⟩⟩
  | x :: l, best, h => by
    have hx := h x (by simp)
    have hl : ∀ y ∈ l, y.tv ≠ 0 := fun y hy => h y (by simp [hy])
    simp only [refFind]
    by_cases hc : within x a && (best.tv == 0 || decide (best.n < x.n))
    · rw [if_pos hc]
      simp only [Bool.and_eq_true, Bool.or_eq_true, beq_iff_eq, decide_eq_true_eq] at hc
      obtain ⟨h1, h2, h3⟩ := find_spec l x hl
      obtain ⟨h4, h5⟩ := h3 hx
      refine ⟨?_, fun y hy hw => ?_, fun hb => ⟨h4, by omega⟩⟩
      · rcases h1 with h1 | ⟨h1, h6⟩
        · rw [h1]; exact .inr ⟨by simp, hc.1⟩
        · exact .inr ⟨List.mem_cons_of_mem _ h1, h6⟩
      · rcases List.mem_cons.1 hy with rfl | hy
        · exact ⟨h4, h5⟩
        · exact h2 y hy hw
    · rw [if_neg hc]
      simp only [Bool.and_eq_true, Bool.or_eq_true, beq_iff_eq, decide_eq_true_eq] at hc
      obtain ⟨h1, h2, h3⟩ := find_spec l best hl
      refine ⟨h1.imp id (fun ⟨p, q⟩ => ⟨List.mem_cons_of_mem _ p, q⟩), fun y hy hw => ?_, h3⟩
      rcases List.mem_cons.1 hy with rfl | hy
      · by_cases hb : best.tv = 0
        · exact absurd ⟨hw, .inl hb⟩ hc
        · obtain ⟨h4, h5⟩ := h3 hb
          exact ⟨h4, by have : ¬ best.n < y.n := fun h => hc ⟨hw, .inr h⟩; omega⟩
      · exact h2 y hy hw
theorem nz_via {me : Int} {rs : List Rt} {cs : List E42} (h : ∀ r ∈ rs, 1 ≤ r.via) : NZ me rs cs Way.via := fun b n w hw => by
  obtain ⟨e, _, _, _, _, hr⟩ := bestP_of hw
  unfold reachM at hr
  split at hr
  · cases hr
    show (-1 : Int) ≠ 0
    decide
  · rw [Option.map_eq_some_iff] at hr
    obtain ⟨r, hr, rfl⟩ := hr
    have := h r (List.mem_of_find?_eq_some hr)
    show r.via ≠ 0
    omega
theorem reach_nd {me : Int} {rs : List Rt} {x : Int} {w : Way} (hr : reachM me rs x = some w) : w.nd = x ∧ (x = me → w.via = -1) ∧ (x ≠ me → w.via = ((findR rs x).getD ⟨0, 0, 0⟩).via) := by
  unfold reachM at hr
  split at hr
  · rename_i h
    cases hr
    exact ⟨rfl, fun _ => rfl, fun hn => absurd h hn⟩
  · rename_i h
    rw [Option.map_eq_some_iff] at hr
    obtain ⟨r, hr, rfl⟩ := hr
    exact ⟨rfl, fun e => absurd e h, fun _ => by rw [hr]; rfl⟩
theorem nz_nd {me : Int} {rs : List Rt} {cs : List E42} : NZ me rs cs Way.nd := fun b n w hw => by
  obtain ⟨e, _, _, _, ht, hr⟩ := bestP_of hw
  rw [(reach_nd hr).1]
  simp only [toOk, Bool.and_eq_true, decide_eq_true_eq] at ht
  omega
theorem tbl_ok {me : Int} {rs : List Rt} {cs : List E42} {tl : Way → Int} (hz : NZ me rs cs tl) : ∀ e ∈ tblF me rs cs tl, okP e.b e.n = true ∧ e.tv ≠ 0 := fun e he => by
  obtain ⟨w, h1, h2, h3⟩ := ((tblF_is hz).m e).1 he
  exact ⟨h1, by rw [h3]; exact hz _ _ _ h2⟩
theorem sent_tbl {me : Int} {rs : List Rt} {cs : List E42} {tl : Way → Int} {a : Nat} (hz : NZ me rs cs tl) : sent ((tblF me rs cs tl).map ofE) a = (refFind (tblF me rs cs tl) a ⟨0, 0, 0⟩).tv := by
  unfold sent sentE
  rw [put_all_ord (tblF_is hz).s (tbl_ok hz)]
theorem within_b {x y : Ent} {a : Nat} (hx : okP x.b x.n = true) (hy : okP y.b y.n = true) (h1 : within x a = true) (h2 : within y a = true) (h : x.n = y.n) : x.b = y.b := by
  obtain ⟨_, _, h3⟩ := okP_iff.1 hx
  obtain ⟨_, _, h4⟩ := okP_iff.1 hy
  simp only [within, beq_iff_eq] at h1 h2
  simp only [Int.toNat_natCast] at h3 h4
  rw [← h] at h2 h4
  have := Nat.div_add_mod x.b (2 ^ (32 - x.n))
  have := Nat.div_add_mod y.b (2 ^ (32 - x.n))
  rw [h3, h1] at *
  rw [h4, h2] at *
  omega
/-- What the table that tells one thing sends, the table that tells another does. -/
theorem sent_both {me : Int} {rs : List Rt} {cs : List E42} {tl tm : Way → Int} {a : Nat} (hz : NZ me rs cs tl) (hy : NZ me rs cs tm) :
    (sent ((tblF me rs cs tl).map ofE) a = 0 ∧ sent ((tblF me rs cs tm).map ofE) a = 0) ∨ ∃ b n w, okP b n = true ∧ inE b n a = true ∧ bestP me rs cs b n = some w ∧ sent ((tblF me rs cs tl).map ofE) a = tl w ∧ sent ((tblF me rs cs tm).map ofE) a = tm w := by
  rw [sent_tbl hz, sent_tbl hy]
  obtain ⟨p1, p2, _⟩ := find_spec (a := a) (tblF me rs cs tl) ⟨0, 0, 0⟩ (fun x hx => (tbl_ok hz x hx).2)
  obtain ⟨q1, q2, _⟩ := find_spec (a := a) (tblF me rs cs tm) ⟨0, 0, 0⟩ (fun x hx => (tbl_ok hy x hx).2)
  generalize refFind (tblF me rs cs tl) a ⟨0, 0, 0⟩ = z at *
  generalize refFind (tblF me rs cs tm) a ⟨0, 0, 0⟩ = y at *
  have other : ∀ {tl tm : Way → Int} {x : Ent}, NZ me rs cs tl → NZ me rs cs tm → x ∈ tblF me rs cs tl → within x a = true → ∃ x' ∈ tblF me rs cs tm, within x' a = true ∧ x'.b = x.b ∧ x'.n = x.n := fun {tl tm x} h1 h2 hx hw => by
    obtain ⟨w, a1, a2, _⟩ := ((tblF_is h1).m x).1 hx
    exact ⟨⟨x.b, x.n, tm w⟩, ((tblF_is h2).m _).2 ⟨w, a1, a2, rfl⟩, hw, rfl, rfl⟩
  rcases p1 with rfl | ⟨hzm, hzw⟩
  · rcases q1 with rfl | ⟨hym, hyw⟩
    · exact .inl ⟨rfl, rfl⟩
    · obtain ⟨x', h1, h2, _⟩ := other hy hz hym hyw
      exact absurd rfl (p2 x' h1 h2).1
  · rcases q1 with rfl | ⟨hym, hyw⟩
    · obtain ⟨x', h1, h2, _⟩ := other hz hy hzm hzw
      exact absurd rfl (q2 x' h1 h2).1
    · right
      obtain ⟨x1, a1, a2, a3, a4⟩ := other hz hy hzm hzw
      obtain ⟨x2, b1, b2, b3, b4⟩ := other hy hz hym hyw
      have e1 := (q2 x1 a1 a2).2
      have e2 := (p2 x2 b1 b2).2
      have hn : z.n = y.n := by omega
      obtain ⟨w, c1, c2, c3⟩ := ((tblF_is hz).m z).1 hzm
      obtain ⟨u, d1, d2, d3⟩ := ((tblF_is hy).m y).1 hym
      have hbb := within_b c1 d1 hzw hyw hn
      rw [← hbb, ← hn, c2] at d2
      cases d2
      exact ⟨z.b, z.n, w, c1, by simpa [inE, within] using hzw, c2, c3, d3⟩
def pE (o : Int) (a : Nat) (e : E42) : Bool := (e.tv == o && okP e.b e.n) && inE e.b e.n a
theorem owner_plain {me : Int} {rs : List Rt} {cs : List E42} {a : Nat} (h : ∀ r ∈ rs, 1 ≤ r.via) :
    ((sent ((tblF me rs cs Way.via).map ofE) a != 0) = (sent ((tblF me rs cs Way.nd).map ofE) a != 0)) ∧ (sent ((tblF me rs cs Way.nd).map ofE) a ≠ 0 → cs.any (pE (sent ((tblF me rs cs Way.nd).map ofE) a) a) = true ∧
      (sent ((tblF me rs cs Way.nd).map ofE) a = me → sent ((tblF me rs cs Way.via).map ofE) a = -1) ∧ (sent ((tblF me rs cs Way.nd).map ofE) a ≠ me → sent ((tblF me rs cs Way.via).map ofE) a = ((findR rs (sent ((tblF me rs cs Way.nd).map ofE) a)).getD ⟨0, 0, 0⟩).via)) := by
  rcases sent_both (a := a) (nz_via (me := me) (cs := cs) h) (nz_nd (me := me) (rs := rs) (cs := cs)) with ⟨h1, h2⟩ | ⟨b, n, w, h1, h2, h3, h4, h5⟩
  · rw [h1, h2]
    exact ⟨rfl, fun h => absurd rfl h⟩
  · rw [h4, h5]
    obtain ⟨e, he, rfl, rfl, ht, hr⟩ := bestP_of h3
    obtain ⟨k1, k2, k3⟩ := reach_nd hr
    have n1 := nz_via (me := me) (cs := cs) h _ _ _ h3
    have n2 := nz_nd _ _ _ h3
    refine ⟨by rw [show (w.via != 0) = true by simpa using n1, show (w.nd != 0) = true by simpa using n2], fun _ => ⟨List.any_eq_true.2 ⟨e, he, by unfold pE; rw [k1, h1, h2, beq_self_eq_true]; rfl⟩, by rw [k1]; exact k2, by rw [k1]; exact k3⟩⟩
def aR : List Rt := [⟨3, 2, 5⟩]
def aC : List E42 := [⟨0, 0, 3⟩]
theorem aw_t : tblF 1 aR aC Way.via = [⟨0, 0, 2⟩] := by decide +kernel
theorem aw_s : sent ([(⟨0, 0, 2⟩ : Ent)].map ofE) 77 = 2 := by decide +kernel

/- waymarklaw43.awake -/
set_option maxRecDepth 100000 in
set_option maxHeartbeats 400000 in
theorem law43_awake  : Triple Try.prog 60 [] [] (Is (.v (.bool true)) []) := by
  refine triple_of Try.func60 rfl (by kernel_rfl) rfl (by simp) ?_
  refine aSeq ?_
  refine aReg ?_
  refine sp pMa ?_
  refine oNil ?_
  refine aSeq ?_
  refine aReg ?_
  refine sp (pBuild rfl st_125 ze_125 rfl rfl rfl rfl) ?_
  refine sq ?_
  refine qLit (l := [_]) rfl rfl (by decide) us_113 ty_125 ze_125 rfl (by decide) (by decide) rfl rfl rfl (fun b5 => ?_)
  refine sp (pBuild rfl st_31 ze_31 rfl rfl rfl rfl) ?_
  refine sq ?_
  refine qLit (l := [_]) rfl rfl (by decide) us_26 ty_31 ze_31 rfl (by decide) (by decide) rfl rfl rfl (fun b7 => ?_)
  refine oWeak (weak_settle (k := 5) rfl (by repeat constructor) rfl) ?_
  refine oWeak (weak_settle (k := 7) rfl (by repeat constructor) rfl) ?_
  refine sa ?_
  first | refine coM rfl rfl rfl (fib_Make (me := 1) (rs := aR) (cs := aC) (by decide) (by decide) (by decide) (nz_via (by decide))) (fun g8 k8 => ?_) | refine co rfl rfl rfl (fib_Make (me := 1) (rs := aR) (cs := aC) (by decide) (by decide) (by decide) (nz_via (by decide))) (fun g8 k8 => ?_)
  rw [aw_t]
  refine sp pMa ?_
  refine oNil ?_
  refine aSeq ?_
  refine aWeak (weak_settle (k := 1) rfl .hd rfl) ?_
  refine aReg ?_
  refine sp pM ?_
  refine sq ?_
  refine ci rfl rfl rfl (fib_Next (l := [(⟨0, 0, 2⟩ : Ent)].map ofE) (a := 77) (by decide) (by decide) (by decide)) ?_
  rw [aw_s]
  refine sp pM ?_
  refine sp pX ?_
  refine sp pX ?_
  refine sp pMa ?_
  refine sp pMa ?_
  refine oNil ?_
  refine aSeq ?_
  refine aReg ?_
  refine sp pM ?_
  refine sp (by first | exact pLm sl_26 | exact pLs sl_26 | exact pLv sl_26) ?_
  refine sp pB ?_
  refine sp pM ?_
  refine gp pM ?_
  refine sp pK ?_
  refine sp pM ?_
  refine gp pM ?_
  refine gp pB ?_
  refine sp pK ?_
  refine sp pMa ?_
  refine oNil ?_
  refine aRet ?_
  refine finIs rfl ?_
  rfl

end A
end Go.Proofs.Ytkgemkadebgeoaa
