/- What functions of the program compute: arcs -/
import Derived.Test.YtmkphhjlmhhokaaBlsa
import Derived.Test.YtmkphhjlmhhokaaProg
import Derived.KernelRfl
set_option linter.unusedVariables false
set_option linter.unusedSimpArgs false
namespace Go.Proofs.Ytmkphhjlmhhokaa
namespace A

def lsdbB : Int → List Lsa → Bool
  | _, [] => true
  | last, x :: l => (lsaB x && decide (last < x.o)) && lsdbB x.o l
theorem lsdb_step {last : Int} {l : List Lsa} {i : Nat} {x : Lsa} (h : l[i]? = some x) : lsdbB last (l.drop i) = ((lsaB x && decide (last < x.o)) && lsdbB x.o (l.drop (i + 1))) := by
  rw [drop_step h]
  rfl
theorem lsdb_len : ∀ {l : List Lsa} {last : Int}, 0 ≤ last → lsdbB last l = true → last + l.length ≤ 64 ∨ l = []
  | [], last, _, _ => .inr rfl
  | x :: l, last, h0, h => by
    simp only [lsdbB, Bool.and_eq_true, decide_eq_true_eq] at h
    obtain ⟨⟨h1, h2⟩, h3⟩ := h
    have h4 : x.o ≤ 64 := by simp only [lsaB, nodeB, Bool.and_eq_true, decide_eq_true_eq] at h1; omega
    rcases lsdb_len (by omega) h3 with h5 | h5
    · left; simp only [List.length_cons]; omega
    · subst h5; left; simp only [List.length_cons, List.length_nil]; omega
theorem lsdb_len64 {l : List Lsa} (h : lsdbB 0 l = true) : l.length ≤ 64 := by
  rcases lsdb_len (Int.le_refl 0) h with h | h
  · omega
  · subst h; simp
theorem lsdb_mem : ∀ {l : List Lsa} {last : Int}, lsdbB last l = true → ∀ x ∈ l, lsaB x = true
  | [], _, _, x, hx => by simp at hx
  | y :: l, last, h, x, hx => by
    simp only [lsdbB, Bool.and_eq_true, decide_eq_true_eq] at h
    rcases List.mem_cons.1 hx with rfl | hx
    · exact h.1.1
    · exact lsdb_mem h.2 x hx
theorem lsa_links {l : Lsa} (h : lsaB l = true) : l.ls.length ≤ 16 := by simp only [lsaB, Bool.and_eq_true, decide_eq_true_eq] at h; omega

/- lsdb.Check -/
set_option maxRecDepth 100000 in
set_option maxHeartbeats 400000 in
theorem lsdb_Check (l : List Lsa) (hl : l.length < 9223372036854775807) : Triple Try.prog 32 [AV.sl 3 (l.map lsaC)] [] (fun r h' => r = .int (if lsdbB 0 l then 0 else 1) ∧ h' = []) := by
  refine triple_of Try.func32 rfl (by kernel_rfl) rfl (by simp) ?_
  refine aSeq ?_
  refine aReg ?_
  refine oP rfl (by exact pMv (.inr rfl) rfl) rfl (by decide) ?_
  refine oNil ?_
  refine aSeq ?_
  refine aReg ?_
  refine oP rfl (by exact pMv (.inr rfl) rfl) rfl (by decide) ?_
  refine oNil ?_
  refine aSeq ?_
  refine aSeq ?_
  refine aReg ?_
  refine oP rfl (by exact pMv (.inl rfl) rfl) rfl (by decide) ?_
  refine oP rfl (by first | exact pLenS' (pLenS rfl rfl sl_29) (List.length_map _) | exact pLenS rfl rfl sl_29 | exact pLenV rfl rfl sl_29) rfl (by decide) ?_
  refine oP rfl (by exact pMv (.inl rfl) rfl) rfl (by decide) ?_
  refine oNil ?_
  refine aBlock ?_
  refine aLoopI (α := Nat × Int) (fun (i, last) => i ≤ l.length ∧ lsdbB 0 l = lsdbB last (l.drop i)) (fun (i, last) => ([(3, .int last), (6, .sl 3 (l.map lsaC)), (7, .int l.length), (8, .int i)], [])) (fun (i, last) => l.length - i) (0, 0) ?_ ?_ ?_
  · skip
    exact ⟨by omega, rfl⟩
  · skip
    exact weak_sub ⟨rfl, rfl, gInt rfl (by simp), rfl, trivial⟩ .nil
  · rintro ⟨i, last⟩ ⟨hi, hv⟩
    skip
    refine aSeq ?_
    refine aReg ?_
    refine oP rfl (by exact pBin rfl rfl rfl rfl rfl) rfl (by decide) ?_
    refine oNil ?_
    refine aSeq ?_
    refine aCondDec rfl (fun c9 => ?_) (fun c9 => ?_)
    · skip
      refine aSkip ?_
      refine aSeq ?_
      refine aBlock ?_
      refine aSeq ?_
      refine aReg ?_
      obtain ⟨a, ha⟩ : ∃ a, l[i]? = some a := ⟨_, List.getElem?_eq_getElem (by omega)⟩
      refine oP rfl (by exact pIdxS rfl rfl rfl es_29 (by omega) (map_get (f := lsaC) ha)) rfl (by decide) ?_
      refine oR rfl (by first | exact rLdSA rfl rfl ty_52 (Nat.le_of_ble_eq_true rfl) | exact rLdBA rfl rfl (by repeat constructor) ty_52 (Nat.le_of_ble_eq_true rfl)) rfl (by decide) ?_
      refine oQ rfl ?_
      refine qAlloc rfl rfl (by decide) ze_52 rfl (fun b5 => ?_)
      refine oA rfl ?_
      refine oStB rfl rfl rfl rfl (by repeat constructor) ty_52 rfl (Nat.le_of_ble_eq_true rfl) rfl ?_
      refine oNil ?_
      refine aSeq ?_
      refine aSeq ?_
      refine aReg ?_
      refine oR rfl (by first | exact rLdSA rfl rfl ty_52 (Nat.le_of_ble_eq_true rfl) | exact rLdBA rfl rfl (by repeat constructor) ty_52 (Nat.le_of_ble_eq_true rfl)) rfl (by decide) ?_
      refine oQ rfl ?_
      refine qCallV rfl rfl (by decide) rfl rfl (lents_refl _) (lsa_Check a) ?_
      refine oP rfl (by exact pBin rfl rfl rfl rfl rfl) rfl (by decide) ?_
      refine oP rfl (by exact pMv (.inl rfl) rfl) rfl (by decide) ?_
      refine oSplitNe 15 rfl (fun c15 => ?_) (fun c15 => ?_)
      · skip
        refine oGF rfl rfl rfl rfl rfl (by decide) ?_
        refine oGF rfl rfl rfl rfl rfl (by decide) ?_
        refine oGF rfl rfl rfl rfl rfl (by decide) ?_
        refine oGF rfl rfl rfl rfl rfl (by decide) ?_
        refine oP rfl (by exact pPick rfl rfl rfl) rfl (by decide) ?_
        refine oNil ?_
        refine aCondT rfl ?_
        refine aSeq ?_
        refine aReg ?_
        refine oP rfl (by exact pMv (.inr rfl) rfl) rfl (by decide) ?_
        refine oNil ?_
        refine aRet ?_
        refine ⟨_, [], _, rfl, .nil, ?_, rfl⟩
        show AV.int 1 = AV.int _
        have hs := lsdb_step (last := last) ha
        simp_all
        all_goals (intros; omega)
      · skip
        refine oGP rfl rfl rfl rfl (by first | exact pFldB rfl rfl fd_52_0 | exact pFldS rfl rfl fd_52_0) rfl (by decide) ?_
        refine oGR rfl rfl rfl rfl (by first | exact rLdS1 rfl rfl ty_3 rfl | exact rLdB1 rfl rfl (by repeat constructor) ty_3 rfl) rfl (by decide) ?_
        refine oGP rfl rfl rfl rfl (by exact pMv (.inl rfl) rfl) rfl (by decide) ?_
        refine oGP rfl rfl rfl rfl (by exact pBin rfl rfl rfl rfl rfl) rfl (by decide) ?_
        refine oP rfl (by exact pPick rfl rfl rfl) rfl (by decide) ?_
        refine oNil ?_
        refine aCondDec rfl (fun c20 => ?_) (fun c20 => ?_)
        · skip
          refine aSeq ?_
          refine aReg ?_
          refine oP rfl (by exact pMv (.inr rfl) rfl) rfl (by decide) ?_
          refine oNil ?_
          refine aRet ?_
          refine ⟨_, [], _, rfl, .nil, ?_, rfl⟩
          show AV.int 1 = AV.int _
          have hs := lsdb_step (last := last) ha
          simp_all
          all_goals (intros; omega)
        · skip
          refine aSkip ?_
          refine aReg ?_
          refine oP rfl (by first | exact pFldB rfl rfl fd_52_0 | exact pFldS rfl rfl fd_52_0) rfl (by decide) ?_
          refine oR rfl (by first | exact rLdS1 rfl rfl ty_3 rfl | exact rLdB1 rfl rfl (by repeat constructor) ty_3 rfl) rfl (by decide) ?_
          refine oP rfl (by exact pMv (.inr rfl) rfl) rfl (by decide) ?_
          refine oNil ?_
          refine aReg ?_
          refine oP rfl (by exact pAdd rfl rfl rfl (by omega) (by omega)) rfl (by decide) ?_
          refine oP rfl (by exact pMv (.inl rfl) rfl) rfl (by decide) ?_
          refine oNil ?_
          have hs := lsdb_step (last := last) ha
          refine ⟨(i + 1, a.o), ⟨by omega, ?_⟩, by show l.length - (i + 1) < l.length - i; omega, weak_sub ⟨rfl, rfl, rfl, gInt rfl (by simp), trivial⟩ .nil⟩
          rw [hv, hs]
          simp_all
          all_goals (intros; omega)
    · skip
      refine aExit rfl ?_
      refine aSeq ?_
      refine aReg ?_
      refine oP rfl (by exact pMv (.inr rfl) rfl) rfl (by decide) ?_
      refine oNil ?_
      refine aRet ?_
      refine ⟨_, [], _, rfl, .nil, ?_, rfl⟩
      show AV.int 0 = AV.int _
      rw [hv, List.drop_of_length_le (by omega)]
      rfl

def mapDb (db : List Lsa) : List (Int × AV) := db.foldl (fun m l => kvPut m l.o (.agg (lsaC l))) []
theorem mapDb_step {db : List Lsa} {i : Nat} {a : Lsa} (h : db[i]? = some a) : mapDb (db.take (i + 1)) = kvPut (mapDb (db.take i)) a.o (.agg (lsaC a)) := by
  unfold mapDb
  rw [List.take_add_one, h]
  simp [List.foldl_append]
/-- The last one of a node; one of nought, if there is none. -/
def getL (db : List Lsa) (n : Int) : Lsa := (db.reverse.find? (fun l => l.o == n)).getD ⟨0, 0, []⟩
theorem mapDb_get (n : Int) : ∀ (db : List Lsa), kvGet (mapDb db) n = (db.reverse.find? (fun l => l.o == n)).map (fun l => .agg (lsaC l)) := by
  have key : ∀ (db : List Lsa) (m : List (Int × AV)), kvGet (db.foldl (fun m l => kvPut m l.o (.agg (lsaC l))) m) n = ((db.reverse.find? (fun l => l.o == n)).map (fun l => AV.agg (lsaC l))).or (kvGet m n) := by
    intro db
    induction db with
    | nil => intro m; rfl
    | cons a db ih =>
      intro m
      rw [List.foldl_cons, ih, kvGet_put, List.reverse_cons, List.find?_append]
      cases db.reverse.find? (fun l => l.o == n) with
      | some x => rfl
      | none =>
        by_cases h : n = a.o
        · simp [h]
        · have h2 : (a.o == n) = false := by simpa using fun e => h e.symm
          simp [h, h2]
  intro db
  rw [mapDb, key]
  simp [kvGet]
theorem cast_getL (db : List Lsa) (n : Int) : Cast ((kvGet (mapDb db) n).getD (.v (.agg #[.int .i64 0, .int .i64 0, .slice none 0 0]))) (.agg (lsaC (getL db n))) := by
  rw [mapDb_get, getL]
  cases db.reverse.find? (fun l => l.o == n) with
  | some x => exact Cast.refl
  | none =>
    refine cast_agg rfl rfl (fun i y c hy hc => ?_)
    match i with
    | 0 => simp at hy; subst hy; simp [lsaC] at hc; subst hc; exact Cast.refl
    | 1 => simp at hy; subst hy; simp [lsaC] at hc; subst hc; exact Cast.refl
    | 2 => simp at hy; subst hy; simp [lsaC] at hc; subst hc; exact cast_nil
    | i + 3 => simp at hy
theorem getL_len {db : List Lsa} (h : lsdbB 0 db = true) (n : Int) : (getL db n).ls.length ≤ 16 := by
  unfold getL
  cases hf : db.reverse.find? (fun l => l.o == n) with
  | none => simp
  | some x => exact lsa_links (lsdb_mem h x (by simpa using List.mem_of_find?_eq_some hf))
def arcOf (db : List Lsa) (l : Lsa) (x : Link) : Option Arc := if 0 < costL (getL db x.t).ls l.o then some ⟨l.o, x.t, x.c⟩ else none
def arcsOf (db : List Lsa) (l : Lsa) : List Arc := l.ls.filterMap (arcOf db l)
def arcsAll (db : List Lsa) : List Arc := db.flatMap (arcsOf db)
def arcsDb (db : List Lsa) : List Arc := if lsdbB 0 db = true then arcsAll db else []
theorem take_step {α : Type} {l : List α} {i : Nat} {a : α} (h : l[i]? = some a) : l.take (i + 1) = l.take i ++ [a] := by rw [List.take_add_one, h]; rfl

/- graph.Arcs -/
set_option maxRecDepth 100000 in
set_option maxHeartbeats 2000000 in
theorem graph_Arcs (db : List Lsa) (hl : db.length < 9223372036854775807) : Triple Try.prog 12 [AV.sl 3 (db.map lsaC)] [] (fun r h' => ∃ g c, r = .v (slV g (arcsDb db).length c) ∧ h' = [.sl g c 34 3 ((arcsDb db).map arcC)]) := by
  refine triple_of Try.func12 rfl (by kernel_rfl) rfl (by simp) ?_
  refine aSeq ?_
  refine aReg ?_
  refine oP rfl (by exact pMv (.inr rfl) rfl) rfl (by decide) ?_
  refine oNil ?_
  refine aSeq ?_
  refine aSeq ?_
  refine aReg ?_
  refine oP rfl (by exact pMv (.inl rfl) rfl) rfl (by decide) ?_
  refine oQ rfl ?_
  refine qCallV rfl rfl (by decide) rfl rfl (lents_refl _) (lsdb_Check db hl) ?_
  refine oP rfl (by exact pBin rfl rfl rfl rfl rfl) rfl (by decide) ?_
  refine oNil ?_
  refine aCondNe rfl (fun c13 => ?_) (fun c13 => ?_)
  · skip
    refine aSeq ?_
    refine aReg ?_
    refine oP rfl (by exact pMv (.inr rfl) rfl) rfl (by decide) ?_
    refine oNil ?_
    have hB : ¬ lsdbB 0 db = true := fun hb => by rw [hb] at c13; exact absurd rfl c13
    refine aWeak (weak_nil 34 3) ?_
    refine aRet ?_
    refine ⟨_, [_], _, rfl, .cons .hd .nil, none, 0, ?_, ?_⟩
    · rw [arcsDb, if_neg hB]; rfl
    · rw [arcsDb, if_neg hB]; rfl
  · skip
    refine aSkip ?_
    refine aSeq ?_
    have hB : lsdbB 0 db = true := by
      cases hb : lsdbB 0 db with
      | true => rfl
      | false => rw [hb] at c13; exact absurd c13 (by decide)
    have h64 := lsdb_len64 hB
    refine aReg ?_
    refine oQ rfl ?_
    refine qMakeMap rfl rfl (by decide) (fun b14 => ?_)
    refine oP rfl (by exact pMv (.inr rfl) rfl) rfl (by decide) ?_
    refine oNil ?_
    refine aSeq ?_
    refine aSeq ?_
    refine aReg ?_
    refine oP rfl (by exact pMv (.inl rfl) rfl) rfl (by decide) ?_
    refine oP rfl (by first | exact pLenS' (pLenS rfl rfl sl_29) (List.length_map _) | exact pLenS rfl rfl sl_29 | exact pLenV rfl rfl sl_29) rfl (by decide) ?_
    refine oP rfl (by exact pMv (.inl rfl) rfl) rfl (by decide) ?_
    refine oNil ?_
    refine aBlock ?_
    refine aLoopI (α := Nat) (fun i => i ≤ db.length) (fun i => ([(0, .sl 3 (db.map lsaC)), (3, .v (.map (some b14))), (15, .sl 3 (db.map lsaC)), (16, .int db.length), (17, .int i)], [.map b14 (mapDb (db.take i))])) (fun i => db.length - i) 0 ?_ ?_ ?_
    · skip
      omega
    · skip
      exact weak_sub ⟨rfl, rfl, rfl, gInt rfl (by simp), rfl, trivial⟩ (by repeat constructor)
    · rintro i hi
      skip
      refine aSeq ?_
      refine aReg ?_
      refine oP rfl (by exact pBin rfl rfl rfl rfl rfl) rfl (by decide) ?_
      refine oNil ?_
      refine aSeq ?_
      refine aCondDec rfl (fun c18 => ?_) (fun c18 => ?_)
      · skip
        refine aSkip ?_
        refine aSeq ?_
        refine aBlock ?_
        refine aSeq ?_
        refine aReg ?_
        obtain ⟨a, ha⟩ : ∃ a, db[i]? = some a := ⟨_, List.getElem?_eq_getElem (by omega)⟩
        refine oP rfl (by exact pIdxS rfl rfl rfl es_29 (by omega) (map_get (f := lsaC) ha)) rfl (by decide) ?_
        refine oR rfl (by first | exact rLdSA rfl rfl ty_52 (Nat.le_of_ble_eq_true rfl) | exact rLdBA rfl rfl (by repeat constructor) ty_52 (Nat.le_of_ble_eq_true rfl)) rfl (by decide) ?_
        refine oQ rfl ?_
        refine qAlloc rfl rfl (by decide) ze_52 rfl (fun b5 => ?_)
        refine oA rfl ?_
        refine oStB rfl rfl rfl rfl (by repeat constructor) ty_52 rfl (Nat.le_of_ble_eq_true rfl) rfl ?_
        refine oNil ?_
        refine aReg ?_
        refine oP rfl (by exact pMv (.inl rfl) rfl) rfl (by decide) ?_
        refine oP rfl (by first | exact pFldB rfl rfl fd_52_0 | exact pFldS rfl rfl fd_52_0) rfl (by decide) ?_
        refine oR rfl (by first | exact rLdS1 rfl rfl ty_3 rfl | exact rLdB1 rfl rfl (by repeat constructor) ty_3 rfl) rfl (by decide) ?_
        refine oR rfl (by first | exact rLdSA rfl rfl ty_52 (Nat.le_of_ble_eq_true rfl) | exact rLdBA rfl rfl (by repeat constructor) ty_52 (Nat.le_of_ble_eq_true rfl)) rfl (by decide) ?_
        refine oA rfl ?_
        refine oMapSet rfl rfl rfl rfl rfl (by repeat constructor) mo_56 ?_
        refine oNil ?_
        refine aReg ?_
        refine oP rfl (by exact pAdd rfl rfl rfl (by omega) (by omega)) rfl (by decide) ?_
        refine oP rfl (by exact pMv (.inl rfl) rfl) rfl (by decide) ?_
        refine oNil ?_
        refine ⟨i + 1, by omega, by show db.length - (i + 1) < db.length - i; omega, ?_⟩
        simp only [mapDb_step ha]
        exact weak_sub ⟨rfl, rfl, rfl, rfl, gInt rfl (by simp), trivial⟩ (by repeat constructor)
      · skip
        refine aExit rfl ?_
        refine aSeq ?_
        refine aReg ?_
        refine oP rfl (by exact pMv (.inr rfl) rfl) rfl (by decide) ?_
        refine oNil ?_
        refine aSeq ?_
        refine aSeq ?_
        refine aReg ?_
        refine oP rfl (by exact pMv (.inl rfl) rfl) rfl (by decide) ?_
        refine oP rfl (by first | exact pLenS' (pLenS rfl rfl sl_29) (List.length_map _) | exact pLenS rfl rfl sl_29 | exact pLenV rfl rfl sl_29) rfl (by decide) ?_
        refine oP rfl (by exact pMv (.inl rfl) rfl) rfl (by decide) ?_
        refine oNil ?_
        refine aBlock ?_
        obtain rfl : i = db.length := by omega
        refine aWeak (weak_nil 34 3) ?_
        rw [List.take_length]
        refine aLoopI (α := Nat × Option Nat × Nat) (fun (i, g, c) => i ≤ db.length ∧ ((db.take i).flatMap (arcsOf db)).length ≤ i * 16) (fun (i, g, c) => ([(0, .sl 3 (db.map lsaC)), (3, .v (.map (some b14))), (26, .sl 3 (db.map lsaC)), (27, .int db.length), (28, .int i), (6, .v (slV g ((db.take i).flatMap (arcsOf db)).length c))], [.sl g c 34 3 (((db.take i).flatMap (arcsOf db)).map arcC), .map b14 (mapDb db)])) (fun (i, g, c) => db.length - i) (0, none, 0) ?_ ?_ ?_
        · skip
          exact ⟨by omega, by simp⟩
        · skip
          exact weak_sub ⟨rfl, rfl, rfl, gInt rfl (by simp), rfl, rfl, trivial⟩ (by repeat constructor)
        · rintro ⟨i, g, c⟩ ⟨hi, hn⟩
          skip
          refine aSeq ?_
          refine aReg ?_
          refine oP rfl (by exact pBin rfl rfl rfl rfl rfl) rfl (by decide) ?_
          refine oNil ?_
          refine aSeq ?_
          refine aCondDec rfl (fun c29 => ?_) (fun c29 => ?_)
          · skip
            refine aSkip ?_
            refine aSeq ?_
            refine aBlock ?_
            refine aSeq ?_
            refine aReg ?_
            obtain ⟨l, hl2⟩ : ∃ l, db[i]? = some l := ⟨_, List.getElem?_eq_getElem (by omega)⟩
            have hl16 := lsa_links (lsdb_mem hB l (List.mem_of_getElem? hl2))
            refine oP rfl (by exact pIdxS rfl rfl rfl es_29 (by omega) (map_get (f := lsaC) hl2)) rfl (by decide) ?_
            refine oR rfl (by first | exact rLdSA rfl rfl ty_52 (Nat.le_of_ble_eq_true rfl) | exact rLdBA rfl rfl (by repeat constructor) ty_52 (Nat.le_of_ble_eq_true rfl)) rfl (by decide) ?_
            refine oQ rfl ?_
            refine qAlloc rfl rfl (by decide) ze_52 rfl (fun b8 => ?_)
            refine oA rfl ?_
            refine oStB rfl rfl rfl rfl (by repeat constructor) ty_52 rfl (Nat.le_of_ble_eq_true rfl) rfl ?_
            refine oNil ?_
            refine aSeq ?_
            refine aReg ?_
            refine oP rfl (by first | exact pFldB rfl rfl fd_52_2 | exact pFldS rfl rfl fd_52_2) rfl (by decide) ?_
            refine oR rfl (by first | exact rLdS1 rfl rfl ty_50 rfl | exact rLdB1 rfl rfl (by repeat constructor) ty_50 rfl) rfl (by decide) ?_
            refine oP rfl (by first | exact pLenS' (pLenS rfl rfl sl_50) (List.length_map _) | exact pLenS rfl rfl sl_50 | exact pLenV rfl rfl sl_50) rfl (by decide) ?_
            refine oP rfl (by exact pMv (.inl rfl) rfl) rfl (by decide) ?_
            refine oNil ?_
            refine aBlock ?_
            refine aLoopI (α := Nat × Option Nat × Nat) (fun (k, g', c') => k ≤ l.ls.length ∧ ((l.ls.take k).filterMap (arcOf db l)).length ≤ k) (fun (k, g', c') => ([(0, .sl 3 (db.map lsaC)), (3, .v (.map (some b14))), (8, .v (.pointer (some ⟨b8, 0, none⟩))), (26, .sl 3 (db.map lsaC)), (27, .int db.length), (28, .int i), (33, .sl 2 (l.ls.map linkC)), (34, .int l.ls.length), (35, .int k), (6, .v (slV g' ((db.take i).flatMap (arcsOf db) ++ (l.ls.take k).filterMap (arcOf db l)).length c'))], [.sl g' c' 34 3 (((db.take i).flatMap (arcsOf db) ++ (l.ls.take k).filterMap (arcOf db l)).map arcC), .box b8 (lsaC l), .map b14 (mapDb db)])) (fun (k, g', c') => l.ls.length - k) (0, g, c) ?_ ?_ ?_
            · skip
              exact ⟨by omega, by simp⟩
            · skip
              simp only [List.take_zero, List.filterMap_nil, List.append_nil]
              exact weak_sub ⟨rfl, rfl, rfl, rfl, rfl, rfl, rfl, gInt rfl (by simp), rfl, rfl, trivial⟩ (by repeat constructor)
            · rintro ⟨k, g', c'⟩ ⟨hk, hnk⟩
              skip
              refine aSeq ?_
              refine aReg ?_
              refine oP rfl (by exact pBin rfl rfl rfl rfl rfl) rfl (by decide) ?_
              refine oNil ?_
              refine aSeq ?_
              refine aCondDec rfl (fun c36 => ?_) (fun c36 => ?_)
              · skip
                refine aSkip ?_
                refine aSeq ?_
                refine aBlock ?_
                refine aSeq ?_
                refine aReg ?_
                obtain ⟨x, hx⟩ : ∃ x, l.ls[k]? = some x := ⟨_, List.getElem?_eq_getElem (by omega)⟩
                refine oP rfl (by exact pIdxS rfl rfl rfl es_50 (by omega) (map_get (f := linkC) hx)) rfl (by decide) ?_
                refine oR rfl (by first | exact rLdSA rfl rfl ty_54 (Nat.le_of_ble_eq_true rfl) | exact rLdBA rfl rfl (by repeat constructor) ty_54 (Nat.le_of_ble_eq_true rfl)) rfl (by decide) ?_
                refine oQ rfl ?_
                refine qAlloc rfl rfl (by decide) ze_54 rfl (fun b10 => ?_)
                refine oA rfl ?_
                refine oStB rfl rfl rfl rfl (by repeat constructor) ty_54 rfl (Nat.le_of_ble_eq_true rfl) rfl ?_
                refine oNil ?_
                refine aSeq ?_
                refine aReg ?_
                refine oP rfl (by exact pMv (.inl rfl) rfl) rfl (by decide) ?_
                refine oP rfl (by first | exact pFldB rfl rfl fd_54_0 | exact pFldS rfl rfl fd_54_0) rfl (by decide) ?_
                refine oR rfl (by first | exact rLdS1 rfl rfl ty_3 rfl | exact rLdB1 rfl rfl (by repeat constructor) ty_3 rfl) rfl (by decide) ?_
                refine oR rfl (by exact rCast (rLook rfl rfl rfl (by repeat constructor) mo_56 ze_52 rfl) (cast_getL db x.t)) rfl (by decide) ?_
                refine oP rfl (by first | exact pFldB rfl rfl fd_52_0 | exact pFldS rfl rfl fd_52_0) rfl (by decide) ?_
                refine oR rfl (by first | exact rLdS1 rfl rfl ty_3 rfl | exact rLdB1 rfl rfl (by repeat constructor) ty_3 rfl) rfl (by decide) ?_
                refine oQ rfl ?_
                refine qCallV rfl rfl (by decide) rfl rfl (lents_refl _) (lsa_Cost (getL db x.t) l.o (by have := getL_len hB x.t; omega)) ?_
                refine oP rfl (by exact pBin rfl rfl rfl rfl rfl) rfl (by decide) ?_
                refine oNil ?_
                refine aCondDec rfl (fun c46 => ?_) (fun c46 => ?_)
                · skip
                  refine aReg ?_
                  refine oP rfl (by exact pMv (.inl rfl) rfl) rfl (by decide) ?_
                  refine oP rfl (by first | exact pFldB rfl rfl fd_52_0 | exact pFldS rfl rfl fd_52_0) rfl (by decide) ?_
                  refine oR rfl (by first | exact rLdS1 rfl rfl ty_3 rfl | exact rLdB1 rfl rfl (by repeat constructor) ty_3 rfl) rfl (by decide) ?_
                  refine oP rfl (by first | exact pFldB rfl rfl fd_54_0 | exact pFldS rfl rfl fd_54_0) rfl (by decide) ?_
                  refine oR rfl (by first | exact rLdS1 rfl rfl ty_3 rfl | exact rLdB1 rfl rfl (by repeat constructor) ty_3 rfl) rfl (by decide) ?_
                  refine oP rfl (by first | exact pFldB rfl rfl fd_54_1 | exact pFldS rfl rfl fd_54_1) rfl (by decide) ?_
                  refine oR rfl (by first | exact rLdS1 rfl rfl ty_3 rfl | exact rLdB1 rfl rfl (by repeat constructor) ty_3 rfl) rfl (by decide) ?_
                  refine oP rfl (by exact pBuild rfl st_34 ze_34 rfl rfl rfl rfl) rfl (by decide) ?_
                  refine oQ rfl ?_
                  refine qLit (l := [_]) rfl rfl (by decide) us_31 ty_34 ze_34 rfl (by decide) (by decide) rfl rfl rfl (fun b55 => ?_)
                  refine oA rfl ?_
                  refine oApp rfl rfl (by decide) rfl (by repeat constructor) (by simp) (srcOwn rfl (by repeat constructor) rfl) el_31 sl_31 (by intro z hz; rcases List.mem_cons.1 hz with rfl | hz; rfl; cases hz) (by rw [List.length_map, List.length_append]; show _ + 1 ≤ _; omega) (by rw [List.length_map, List.length_append]; show (_ + 1) * 24 ≤ _; omega) (fun g56 k56 => ?_)
                  refine oP rfl (by exact pMv (.inr rfl) rfl) rfl (by decide) ?_
                  refine oNil ?_
                  refine aReg ?_
                  refine oP rfl (by exact pAdd rfl rfl rfl (by omega) (by omega)) rfl (by decide) ?_
                  refine oP rfl (by exact pMv (.inl rfl) rfl) rfl (by decide) ?_
                  refine oNil ?_
                  have hst : (l.ls.take (k + 1)).filterMap (arcOf db l) = (l.ls.take k).filterMap (arcOf db l) ++ (arcOf db l x).toList := by rw [take_step hx, List.filterMap_append]; cases hq : arcOf db l x <;> simp [hq]
                  first
                    | (have hq : arcOf db l x = some ⟨l.o, x.t, x.c⟩ := by simp only [arcOf]; rw [if_pos (by omega)]
                       rw [hq] at hst
                       refine ⟨(k + 1, g56, k56), ⟨by omega, ?_⟩, by show l.ls.length - (k + 1) < l.ls.length - k; omega, ?_⟩
                       · rw [hst, List.length_append]; simp; omega
                       · simp only [hst, Option.toList_some, ← List.append_assoc]
                         exact weak_sub ⟨rfl, rfl, rfl, rfl, rfl, rfl, rfl, rfl, gInt rfl (by simp), gLen rfl (by simp; omega), trivial⟩ (by rw [List.map_append (l₂ := [_])]; repeat constructor))
                    | (have hq : arcOf db l x = none := by simp only [arcOf]; rw [if_neg (by omega)]
                       rw [hq] at hst
                       refine ⟨(k + 1, g', c'), ⟨by omega, ?_⟩, by show l.ls.length - (k + 1) < l.ls.length - k; omega, ?_⟩
                       · rw [hst, List.length_append]; simp; omega
                       · simp only [hst, Option.toList_none, List.append_nil]
                         exact weak_sub ⟨rfl, rfl, rfl, rfl, rfl, rfl, rfl, rfl, gInt rfl (by simp), rfl, trivial⟩ (by repeat constructor))
                · skip
                  refine aSkip ?_
                  refine aReg ?_
                  refine oP rfl (by exact pAdd rfl rfl rfl (by omega) (by omega)) rfl (by decide) ?_
                  refine oP rfl (by exact pMv (.inl rfl) rfl) rfl (by decide) ?_
                  refine oNil ?_
                  have hst : (l.ls.take (k + 1)).filterMap (arcOf db l) = (l.ls.take k).filterMap (arcOf db l) ++ (arcOf db l x).toList := by rw [take_step hx, List.filterMap_append]; cases hq : arcOf db l x <;> simp [hq]
                  first
                    | (have hq : arcOf db l x = some ⟨l.o, x.t, x.c⟩ := by simp only [arcOf]; rw [if_pos (by omega)]
                       rw [hq] at hst
                       refine ⟨(k + 1, g56, k56), ⟨by omega, ?_⟩, by show l.ls.length - (k + 1) < l.ls.length - k; omega, ?_⟩
                       · rw [hst, List.length_append]; simp; omega
                       · simp only [hst, Option.toList_some, ← List.append_assoc]
                         exact weak_sub ⟨rfl, rfl, rfl, rfl, rfl, rfl, rfl, rfl, gInt rfl (by simp), gLen rfl (by simp; omega), trivial⟩ (by rw [List.map_append (l₂ := [_])]; repeat constructor))
                    | (have hq : arcOf db l x = none := by simp only [arcOf]; rw [if_neg (by omega)]
                       rw [hq] at hst
                       refine ⟨(k + 1, g', c'), ⟨by omega, ?_⟩, by show l.ls.length - (k + 1) < l.ls.length - k; omega, ?_⟩
                       · rw [hst, List.length_append]; simp; omega
                       · simp only [hst, Option.toList_none, List.append_nil]
                         exact weak_sub ⟨rfl, rfl, rfl, rfl, rfl, rfl, rfl, rfl, gInt rfl (by simp), rfl, trivial⟩ (by repeat constructor))
              · skip
                refine aExit rfl ?_
                refine aReg ?_
                refine oP rfl (by exact pAdd rfl rfl rfl (by omega) (by omega)) rfl (by decide) ?_
                refine oP rfl (by exact pMv (.inl rfl) rfl) rfl (by decide) ?_
                refine oNil ?_
                obtain rfl : k = l.ls.length := by omega
                have hstep : (db.take (i + 1)).flatMap (arcsOf db) = (db.take i).flatMap (arcsOf db) ++ (l.ls.take l.ls.length).filterMap (arcOf db l) := by rw [take_step hl2, List.flatMap_append, List.take_length]; simp [arcsOf]
                refine ⟨(i + 1, g', c'), ⟨by omega, ?_⟩, by show db.length - (i + 1) < db.length - i; omega, ?_⟩
                · rw [hstep, List.length_append]; omega
                · simp only [hstep]
                  exact weak_sub ⟨rfl, rfl, rfl, rfl, gInt rfl (by simp), rfl, trivial⟩ (by repeat constructor)
          · skip
            refine aExit rfl ?_
            refine aSeq ?_
            refine aReg ?_
            refine oP rfl (by exact pMv (.inl rfl) rfl) rfl (by decide) ?_
            refine oP rfl (by exact pMv (.inr rfl) rfl) rfl (by decide) ?_
            refine oNil ?_
            refine aRet ?_
            obtain rfl : i = db.length := by omega
            refine ⟨_, [_], _, rfl, .cons .hd .nil, g, c, ?_, ?_⟩
            · rw [arcsDb, if_pos hB, arcsAll, List.take_length]; rfl
            · rw [arcsDb, if_pos hB, arcsAll, List.take_length]

end A
end Go.Proofs.Ytmkphhjlmhhokaa
