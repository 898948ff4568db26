/- What functions of the program compute: fib43d -/
import Derived.Test.YtkgemkadebgeoaaBfib43q
import Derived.Test.YtkgemkadebgeoaaProg
import Derived.KernelRfl
set_option linter.unusedVariables false
set_option linter.unusedSimpArgs false
namespace Go.Proofs.Ytkgemkadebgeoaa
namespace A

/- fib.Make -/
set_option maxRecDepth 100000 in
set_option maxHeartbeats 400000 in
theorem fib_Make {me : Int} {rs : List Rt} {cs : List E42} (hb : ∀ e ∈ cs, e.b < 2 ^ 32) (hl : rs.length ≤ 1000000) (hc : cs.length ≤ 1000) (hz : NZ me rs cs Way.via) : Triple Try.prog 61 [.int me, .sl 3 (rs.map rtC), .sl 3 (cs.map e42C)] [] (Own 31 3 ((tblF me rs cs Way.via).map entC) []) := by
  refine triple_of Try.func61 rfl (by kernel_rfl) rfl (by simp) ?_
  refine aSeq ?_
  refine aReg ?_
  refine sp pMa ?_
  refine oNil ?_
  refine aSeq ?_
  refine aReg ?_
  refine sp pM ?_
  refine sp pM ?_
  refine sp pM ?_
  refine sa ?_
  refine ca rfl rfl rfl (fib_best hb hl hc) ?_
  rintro _ _ ⟨b, rfl, rfl⟩
  refine sa ?_
  refine ca rfl rfl rfl (fib_table (me := me) (rs := rs) b (tl := Way.via) (fun w => fib_Make1) hc) ?_
  rintro _ _ ⟨g, c, t, ht, rfl, rfl⟩
  obtain rfl := ht.eq (tblF_is hz)
  refine sp pMa ?_
  refine oNil ?_
  refine aRet ?_
  refine finOwn rfl ?_
  rfl

theorem putE_len {t : List Ent} {e : E42} : (putE t e).length ≤ t.length + 1 := by
  unfold putE
  split
  · exact putI_len _ _ _ _ _
  · omega
theorem putFold_len : ∀ (l : List E42) (t : List Ent), (l.foldl putE t).length ≤ t.length + l.length
  | [], t => by simp
  | e :: l, t => by
    have := putFold_len l (putE t e)
    have := putE_len (t := t) (e := e)
    simp only [List.foldl_cons, List.length_cons]
    omega
theorem tblF_b {me : Int} {rs : List Rt} {cs : List E42} {tl : Way → Int} (hb : ∀ e ∈ cs, e.b < 2 ^ 32) (hz : NZ me rs cs tl) : ∀ e ∈ (tblF me rs cs tl).map ofE, e.b < 2 ^ 32 := fun e he => by
  obtain ⟨x, hx, rfl⟩ := List.mem_map.1 he
  obtain ⟨w, _, h2, _⟩ := ((tblF_is hz).m x).1 hx
  obtain ⟨k, hk, h3, _⟩ := bestP_of h2
  show x.b < 2 ^ 32
  rw [← h3]
  exact hb k hk
theorem stepT_len {me : Int} {rs : List Rt} {cs : List E42} {tl : Way → Int} {t : List Ent} {e : E42} : (stepT me rs cs tl t e).length ≤ t.length + 1 := by
  unfold stepT
  split
  · exact putI_len _ _ _ _ _
  · omega
theorem tblF_len {me : Int} {rs : List Rt} {cs : List E42} {tl : Way → Int} (hz : NZ me rs cs tl) (hc : cs.length ≤ 1000) : ((tblF me rs cs tl).map ofE).length ≤ 1000 := by
  have : ∀ (ks : List E42) (t : List Ent), (ks.foldl (stepT me rs cs tl) t).length ≤ t.length + ks.length := fun ks => by
    induction ks with
    | nil => intro t; simp
    | cons k ks ih => intro t; have := ih (stepT me rs cs tl t k); have := stepT_len (me := me) (rs := rs) (cs := cs) (tl := tl) (t := t) (e := k); simp only [List.foldl_cons, List.length_cons]; omega
  have := this cs []
  rw [List.length_map, tblF]
  simp at this
  omega
theorem put_shape {t : PT} {cnt : Int} {e : E42} (hb : e.b < 2 ^ 32) (hc : cnt < 1000) : allT (shapeP t cnt e.b e.n e.tv) 0 32 = putE (allT t 0 32) e := by
  unfold putE
  by_cases h : okP e.b e.n = true ∧ e.tv ≠ 0
  · have hcode : codeP t cnt e.b e.n e.tv = 0 := by rw [codeP, if_pos h, if_neg (by omega)]
    rw [shapeP, if_pos hcode, put_all hb h.1 h.2, if_pos (by simp [h.1, h.2])]
  · have hcode : codeP t cnt e.b e.n e.tv = 1 := by rw [codeP, if_neg h]
    rw [shapeP, if_neg (by rw [hcode]; decide), if_neg (by simpa using h)]

/- fib.Next -/
set_option maxRecDepth 100000 in
set_option maxHeartbeats 1000000 in
theorem fib_Next {l : List E42} {a : Nat} (hb : ∀ e ∈ l, e.b < 2 ^ 32) (ha : a < 2 ^ 32) (hl : l.length ≤ 1000) : Triple Try.prog 62 [.sl 3 (l.map e42C), u32 a] [] (fun r h' => r = .tup [.int (sent l a), .v (.bool (sent l a != 0))] ∧ h' = []) := by
  refine triple_of Try.func62 rfl (by kernel_rfl) rfl (by simp) ?_
  refine aSeq ?_
  refine aReg ?_
  refine sp pMa ?_
  refine sp pMa ?_
  refine oNil ?_
  refine aSeq ?_
  refine aReg ?_
  refine sa ?_
  refine aCall rfl rfl (by decide) rfl rfl .nil trie_New ?_
  rintro _ _ ⟨tb, rb, rfl, rfl⟩
  refine sp pMa ?_
  refine oNil ?_
  refine aSeq ?_
  refine aSeq ?_
  refine aReg ?_
  refine sp pM ?_
  refine sp (by first | exact pLm sl_26 | exact pLs sl_26) ?_
  refine sp pM ?_
  refine oNil ?_
  refine aBlock ?_
  refine aLoopI (α := Nat × AT × Int) (fun (i, T, cnt) => i ≤ l.length ∧ T.isNil = false ∧ (0 ≤ cnt ∧ cnt ≤ i) ∧ allT T.shape 0 32 = (l.take i).foldl putE []) (fun (i, T, cnt) => ([(1, u32 a), (6, trieP tb), (12, .sl 3 (l.map e42C)), (13, .int l.length), (14, .int i)], trieH tb T cnt)) (fun (i, T, cnt) => l.length - i) (0, .node rb 0 .nil .nil, 0) ?_ ?_ ?_
  · skip
    exact ⟨by omega, rfl, by omega, rfl⟩
  · skip
    exact weak_env ⟨rfl, rfl, rfl, gInt rfl (by simp), rfl, trivial⟩
  · rintro ⟨i, T, cnt⟩ ⟨hi, hT, hcn, hv⟩
    skip
    refine aSeq ?_
    refine aReg ?_
    refine sp pB ?_
    refine oNil ?_
    refine aSeq ?_
    refine aCondDec rfl (fun c15 => ?_) (fun c15 => ?_)
    · skip
      refine aSkip ?_
      refine aSeq ?_
      refine aBlock ?_
      refine aSeq ?_
      obtain ⟨e, he⟩ : ∃ e, l[i]? = some e := ⟨_, List.getElem?_eq_getElem (by omega)⟩
      refine aReg ?_
      first | refine sp (pIx es_26) ?_ | (refine obtSN 12 14 rfl rfl (by omega) (fun x16 hx16 => ?_); refine sp (pIs es_26 hx16) ?_) | (refine obtS 12 14 rfl rfl (by omega) (by omega) (fun x16 hx16 => ?_); refine sp (pIs es_26 hx16) ?_) | refine sp (pIo es_26) ?_
      refine sr (by first | exact rSW ty_31 rfl | exact rSA ty_31 | exact rBWa ty_31 | exact rBW ty_31 | exact rBA ty_31 | exact rArA ty_31 (fun _ => rfl)) ?_
      refine sq ?_
      refine qAlloc rfl rfl (by decide) ze_31 rfl (fun b8 => ?_)
      refine sa ?_
      refine oStW rfl rfl rfl rfl (by repeat constructor) ty_31 ?_
      refine oNil ?_
      refine aReg ?_
      refine sp pM ?_
      refine sr (by first | exact rBWa ty_31 | exact rBW ty_31 | exact rBA ty_31) ?_
      refine sa ?_
      refine aCallTail (hfr := [_]) (hin := trieH tb _ _) rfl rfl (by decide) rfl rfl (trie_Put tb T cnt e.b e.n e.tv (hb e (List.mem_of_getElem? he)) hT (by omega)) ?_
      rintro _ _ ⟨rfl, T', hT', rfl, hs'⟩
      refine oNil ?_
      refine aReg ?_
      refine sp pAd ?_
      refine sp pM ?_
      refine oNil ?_
      have hcp := cntP_le T.shape cnt e.b e.n e.tv
      exact ⟨(i + 1, T', cntP T.shape cnt e.b e.n e.tv), ⟨by omega, hT', by omega, by rw [take_step he, List.foldl_append, ← hv, hs']; exact put_shape (hb e (List.mem_of_getElem? he)) (by omega)⟩, by show l.length - (i + 1) < l.length - i; omega, weak_sub ⟨rfl, rfl, rfl, rfl, gInt rfl (by simp), trivial⟩ (tk_after (l := [_]))⟩
    · skip
      refine aExit rfl ?_
      refine aSeq ?_
      have hil : i = l.length := by omega
      subst hil
      rw [List.take_length] at hv
      have hfe : findT T.shape a 32 ⟨0, 0, 0⟩ = sentE l a := by rw [← find_eq ha, hv]; rfl
      refine aReg ?_
      refine sp pM ?_
      refine sp pM ?_
      refine sa ?_
      refine aCallTail (hfr := []) (hin := trieH tb _ _) rfl rfl (by decide) rfl rfl (trie_Find tb T cnt a ha hT) ?_
      rintro _ _ ⟨rfl, rfl⟩
      rw [hfe]
      refine sp pM ?_
      refine sp pX ?_
      refine sp pX ?_
      refine sq ?_
      refine qAlloc rfl rfl (by decide) ze_31 rfl (fun b9 => ?_)
      refine sa ?_
      refine oStW rfl rfl rfl rfl (by repeat constructor) ty_31 ?_
      refine sp pMa ?_
      refine oNil ?_
      refine aSeq ?_
      refine aReg ?_
      refine sp (pFb fd_31_1) ?_
      refine sr (rB1 ty_3) ?_
      refine sp pM ?_
      refine sp pMa ?_
      refine sp pMa ?_
      refine oNil ?_
      refine aRet ?_
      exact ⟨_, [], _, rfl, .nil, rfl, rfl⟩

/- fib.Owner -/
set_option maxRecDepth 100000 in
set_option maxHeartbeats 400000 in
theorem fib_Owner {me : Int} {rs : List Rt} {cs : List E42} {a : Nat} (hb : ∀ e ∈ cs, e.b < 2 ^ 32) (hl : rs.length ≤ 1000000) (hc : cs.length ≤ 1000) (hz : NZ me rs cs Way.nd) (ha : a < 2 ^ 32) : Triple Try.prog 65 [.int me, .sl 3 (rs.map rtC), .sl 3 (cs.map e42C), u32 a] [] (Is (.tup [.int (sent ((tblF me rs cs Way.nd).map ofE) a), .v (.bool (sent ((tblF me rs cs Way.nd).map ofE) a != 0))]) []) := by
  refine triple_of Try.func65 rfl (by kernel_rfl) rfl (by simp) ?_
  refine aSeq ?_
  refine aReg ?_
  refine sp pMa ?_
  refine sp pMa ?_
  refine oNil ?_
  refine aSeq ?_
  refine aReg ?_
  refine sp pM ?_
  refine sp pM ?_
  refine sp pM ?_
  refine sa ?_
  refine ca rfl rfl rfl (fib_best hb hl hc) ?_
  rintro _ _ ⟨b, rfl, rfl⟩
  refine sa ?_
  refine ca rfl rfl rfl (fib_table (me := me) (rs := rs) b (tl := Way.nd) (fun w => fib_Owner1) hc) ?_
  rintro _ _ ⟨g, c, t, ht, rfl, rfl⟩
  obtain rfl := ht.eq (tblF_is hz)
  have htb := tblF_b hb hz
  have htl := tblF_len hz hc
  refine oWeak (weak_settle (k := 14) rfl .hd (by simp)) ?_
  rw [← ofE_map]
  refine sp pM ?_
  refine sq ?_
  refine ci rfl rfl rfl (fib_Next (l := (tblF me rs cs Way.nd).map ofE) (a := a) htb ha htl) ?_
  refine sp pX ?_
  refine sp pX ?_
  refine sp pMa ?_
  refine sp pMa ?_
  refine oNil ?_
  refine aRet ?_
  refine finIs rfl ?_
  rfl

end A
end Go.Proofs.Ytkgemkadebgeoaa
