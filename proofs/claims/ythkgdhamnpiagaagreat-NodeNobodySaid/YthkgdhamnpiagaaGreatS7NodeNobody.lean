/- Texts that NodeNobody's proof rests on, part 8. -/
import Derived.KernelRfl
import Derived.Test.YthkgdhamnpiagaaGreatRows
import Derived.Test.YthkgdhamnpiagaaGreatS6NodeNobody
set_option linter.unusedVariables false
set_option linter.unusedSimpArgs false
namespace Go.Proofs.YthkgdhamnpiagaaGreat
namespace A
def sgA : List Char := [104, 97, 114, 110, 101, 115, 115].map Char.ofNat
def sgB : List Char := [101, 57, 55, 51, 55, 97, 52, 56, 101, 48, 53, 54, 54, 99, 55, 56, 99, 98, 101, 100, 102, 99, 99, 56, 53, 100, 50, 98, 57, 57, 102, 55, 97, 101, 97, 53, 51, 55, 57, 98, 54, 50, 99, 53, 52, 99, 51, 54, 56, 98, 99, 56, 97, 97, 56, 97, 50, 51, 53, 101, 52, 51, 51, 48].map Char.ofNat
def sgC : List Char := [99, 117, 116].map Char.ofNat
def sgT : List Char := [97, 116, 32, 119, 97, 121, 109, 97, 114, 107, 47, 119, 97, 121, 109, 97, 114, 107, 108, 97, 119, 50, 56, 46, 78, 111, 100, 101, 82, 105, 115, 101, 115, 32, 119, 97, 121, 109, 97, 114, 107, 47, 119, 97, 121, 109, 97, 114, 107, 108, 97, 119, 50, 56, 46, 78, 111, 100, 101, 83, 116, 111, 112, 115, 32, 119, 97, 121, 109, 97, 114, 107, 47, 119, 97, 121, 109, 97, 114, 107, 108, 97, 119, 50, 56, 46, 78, 111, 100, 101, 78, 111, 98, 111, 100, 121].map Char.ofNat
theorem initIs : Tryz.prog.initOrder = String.ofList (sgA ++ Char.ofNat 32 :: (sgB ++ Char.ofNat 32 :: (sgC ++ Char.ofNat 32 :: sgT))) := by kernel_rfl
theorem words_cons {c : Char} (h : c ≠ Char.ofNat 32) (r : List Char) : wordsSigns (c :: r) = match wordsSigns r with | w :: ws => (c :: w) :: ws | [] => [[c]] := by
 rw [wordsSigns]
 ·rfl
 ·exact h
theorem words_step : ∀ (w r : List Char), (∀ c ∈ w, c ≠ Char.ofNat 32) → wordsSigns (w ++ Char.ofNat 32 :: r) = w :: wordsSigns r
 | [], r, _ => by rw [List.nil_append, wordsSigns]
 | c :: w, r, h => by rw [List.cons_append, words_cons (h c (by simp)), words_step w r (fun d hd => h d (by simp [hd]))]
theorem initWords : wordsSigns Tryz.prog.initOrder.toList = sgA :: sgB :: sgC :: wordsSigns sgT := by
 rw [initIs, String.toList_ofList, words_step _ _ (by decide +kernel), words_step _ _ (by decide +kernel), words_step _ _ (by decide +kernel)]
theorem behW : behindMainWord (sgA :: sgB :: sgC :: wordsSigns sgT) = sgC :: wordsSigns sgT := by kernel_rfl
theorem stripW : stripLifts liftWords (sgC :: wordsSigns sgT) = ([], sgC :: wordsSigns sgT) := by kernel_rfl
theorem eqCs : (sgC == "gc".toList) = false ∧ (sgC == "spec".toList) = false ∧ (sgC == "carried".toList) = false ∧ (some sgC == some "cut".toList) = true := by refine ⟨?_, ?_, ?_, ?_⟩ <;> kernel_rfl
theorem laysL : Tryz.prog.laysLater = false := by kernel_rfl
theorem bearsR : Tryz.prog.bearsReflect = false := by kernel_rfl
theorem doorR : Tryz.prog.doorRows = [] := by kernel_rfl
theorem doorF : Tryz.prog.doorFits [] = true := by
 unfold Program.doorFits
 rw [doorR]
 kernel_rfl
theorem mayE_of {P : Program} {h s c : List Char} {t : List (List Char)} (hw : wordsSigns P.initOrder.toList = h :: s :: c :: t) (hb : behindMainWord (h :: s :: c :: t) = c :: t) (hs : stripLifts liftWords (c :: t) = ([], c :: t))
   (h1 : (c == "gc".toList) = false) (h2 : (c == "spec".toList) = false) (h3 : (c == "carried".toList) = false) (h4 : (some c == some "cut".toList) = true) (hl : P.laysLater = false) (hr : P.bearsReflect = false) (hd : P.doorFits [] = true) : P.mayEnter = true := by
 unfold Program.mayEnter
 rw [hw, hb]
 simp only []
 rw [hs, h1, h2, h3, hl, hr, hd]
 simp only [List.head?_cons, h4]
 rfl
theorem mayE : Tryz.prog.mayEnter = true := mayE_of initWords behW stripW eqCs.1 eqCs.2.1 eqCs.2.2.1 eqCs.2.2.2 laysL bearsR doorF
theorem lifF_of {P : Program} {h s c : List Char} {t : List (List Char)} (hw : wordsSigns P.initOrder.toList = h :: s :: c :: t) (hb : behindMainWord (h :: s :: c :: t) = c :: t) (hs : stripLifts liftWords (c :: t) = ([], c :: t))
   (h3 : (some c == some "carried".toList) = false) : P.liftsFinal = false := by
 unfold Program.liftsFinal Program.headLifts
 rw [hw, hb]
 simp only []
 rw [hs, List.head?_cons, h3]
 simp
theorem lifF : Tryz.prog.liftsFinal = false := lifF_of initWords behW stripW (by kernel_rfl)
theorem mkC_of {P : Program} {h s c : List Char} {t : List (List Char)} (hw : wordsSigns P.initOrder.toList = h :: s :: c :: t) (hb : behindMainWord (h :: s :: c :: t) = c :: t)
   (h1 : (c == "gc".toList) = false) (h2 : (c == "spec".toList) = false) (h4 : (c == "cut".toList) = true) : P.make = some .cut := by
 unfold Program.make
 rw [hw, hb]
 simp only []
 rw [h1, h2, h4]
 rfl
theorem mkC : Tryz.prog.make = some .cut := mkC_of initWords behW eqCs.1 eqCs.2.1 (by kernel_rfl)
theorem laidAll : laidOutB Tryz.prog = true := by kernel_rfl
theorem mapsAll : mapsRowed Tryz.prog = true := by kernel_rfl
theorem stopsAll : Tryz.prog.stopsHeard = true := by kernel_rfl
end A
end Go.Proofs.YthkgdhamnpiagaaGreat
namespace Go.Proofs.YthkgdhamnpiagaaGreat
namespace A
variable {P : Program} {N : Nat} {env : Env} {h : List HA} {K : Cont} {X : List (Nat × Cont)} {Rt : Cont}
/-- What a call leaves goes with what it was not handed. -/
theorem R.frame {F F' : Nat → Prop} {hin hfr h' : List HA} {w w' : World} (hr1 : R F (hin ++ hfr) w) (hR' : R F' h' w') (hE : Ext F hin w F' h' w') : R F' (h' ++ hfr) w' ∧ Ext F (hin ++ hfr) w F' (h' ++ hfr) w' := by
 have hnd : (owns hin ++ owns hfr).Nodup := by rw [← owns_append]; exact hr1.nd
 have hrin : R F hin w := ⟨fun x hx => hr1.rep x (by simp [hx]), (List.nodup_append.1 hnd).1, fun b hb => hr1.lt b (by simp [owns_append, hb]), fun b hb => ⟨(hr1.sep b hb).1, fun hm => (hr1.sep b hb).2 (by simp [owns_append, hm])⟩⟩
 have hfrb : ∀ b ∈ owns hfr, b ∉ owns hin := fun b hb hm => (List.nodup_append.1 hnd).2.2 b hm b hb rfl
 have hkeepfr : ∀ b ∈ owns hfr, w'.heap[b]? = w.heap[b]? := fun b hb => hE.keep b (hr1.lt b (by simp [owns_append, hb])) (hfrb b hb)
 have hset := hrin.settled hE
 refine ⟨⟨fun y hy => ?_, ?_, ?_, ?_⟩, hE.os, hE.output, hE.tape, hE.size, fun b hb hn => hE.keep b hb (fun hm => hn (by simp [owns_append, hm])), ?_, hE.mono, ?_, hE.dr⟩
 ·rcases List.mem_append.1 hy with hy | hy
  ·exact hR'.rep y hy
  ·exact (hr1.rep y (by simp [hy])).mono hE.mono hset (fun b hb => hkeepfr b (List.mem_flatMap.2 ⟨y, hy, hb⟩))
 ·rw [owns_append]
  refine List.nodup_append.2 ⟨hR'.nd, (List.nodup_append.1 hnd).2.1, ?_⟩
  rintro b hb c hc rfl
  rcases hE.sub b hb with h1 | h1
  ·exact hfrb b hc h1
  ·have := hr1.lt b (by simp [owns_append, hc]); omega
 ·intro b hb
  rw [owns_append] at hb
  rcases List.mem_append.1 hb with hb | hb
  ·exact hR'.lt b hb
  ·exact Nat.lt_of_lt_of_le (hr1.lt b (by simp [owns_append, hb])) hE.size
 ·intro b hb
  refine ⟨(hR'.sep b hb).1, fun hm => ?_⟩
  rw [owns_append] at hm
  rcases List.mem_append.1 hm with hm | hm
  ·exact (hR'.sep b hb).2 hm
  ·rcases hE.new b hb with h1 | h1 | h1
   ·exact (hr1.sep b h1).2 (by simp [owns_append, hm])
   ·exact hfrb b hm h1
   ·have := hr1.lt b (by simp [owns_append, hm]); omega
 ·intro b hb
  rw [owns_append] at hb ⊢
  rcases List.mem_append.1 hb with hb | hb
  ·rcases hE.sub b hb with h1 | h1
   ·exact .inl (List.mem_append_left _ h1)
   ·exact .inr h1
  ·exact .inl (List.mem_append_right _ hb)
 ·intro b hb
  rcases hE.new b hb with h1 | h1 | h1
  ·exact .inl h1
  ·exact .inr (.inl (by rw [owns_append]; exact List.mem_append_left _ h1))
  ·exact .inr (.inr h1)
section
variable {α : Type}
end
end A
end Go.Proofs.YthkgdhamnpiagaaGreat
namespace Go.Proofs.YthkgdhamnpiagaaGreat
namespace A
variable {P : Program} {N : Nat} {env : Env} {h : List HA} {K : Cont} {X : List (Nat × Cont)} {Rt : Cont}
/-- A bound of a slice expression: left out, or a number. -/
def BoundIs (env : Env) (x : Option Operand) (z n : Nat) : Prop := (x = none ∧ n = z) ∨ ∃ y k, x = some y ∧ ev env y = some (.v (.int k (n : Int)))
theorem bdN {z n : Nat} (h : n = z) : BoundIs env none z n := .inl ⟨rfl, h⟩
theorem bdI {y : Operand} {k : IntKind} {z n : Nat} (h : ev env y = some (.v (.int k (n : Int)))) : BoundIs env (some y) z n := .inr ⟨y, k, rfl, h⟩
theorem run_bounds {F : Nat → Prop} {a : Act} {w : World} (s : Sat N F env h a w) {lo hi : Option Operand} {l m len cap : Nat} (hl : BoundIs env lo 0 l) (hm : BoundIs env hi len m) (h1 : l ≤ m) (h2 : m ≤ cap) (b : Bool) (w' : World) :
   (Instr.sliceBounds b len cap (lo.map a.eval) (hi.map a.eval) none).run P w' = .ok (l, m, cap) w' := by
 have e1 : ∀ (y : Operand) (k : IntKind) (n : Nat), ev env y = some (.v (.int k (n : Int))) → a.eval y = .int k n := fun y k n hy => by
   have := s.ev hy
   generalize a.eval y = v at this
   cases this
   rfl
 have e2 : ∀ (k : IntKind) (n y : Nat) (c : BoundsCode), n ≤ y → (Instr.sliceBound (.int k n) y c).run P w' = .ok n w' := fun k n y c hn => by
   simp only [Instr.sliceBound, asIntOf, Sem.run_bind, Sem.run_pure, Result.andThen_ok]
   rw [if_pos ⟨by omega, by omega⟩]
   simp
 unfold Instr.sliceBounds
 rcases hl with ⟨rfl, rfl⟩ | ⟨y, k, rfl, hy⟩ <;> rcases hm with ⟨rfl, rfl⟩ | ⟨z, k', rfl, hz⟩
 ·simp [Sem.run_bind, Result.andThen]
 ·simp only [Option.map_none, Option.map_some, e1 z k' m hz, Sem.run_bind, Sem.run_pure, Result.andThen_ok, e2 k' m cap _ h2]
 ·simp only [Option.map_none, Option.map_some, e1 y k l hy, Sem.run_bind, Sem.run_pure, Result.andThen_ok, e2 k l _ _ h1]
 ·simp only [Option.map_some, e1 y k l hy, e1 z k' m hz, Sem.run_bind, Sem.run_pure, Result.andThen_ok, e2 k' m cap _ h2, e2 k l m _ h1]
theorem pSlice {o : Oper} {t : TypeId} {x : Operand} {lo hi : Option Operand} {sz l m : Nat} {es : List (List AV)} (ho : o.op = .slice t x lo hi none) (hx : ev env x = some (.sl sz es)) (ht : elemSize P t = some sz) (hl : BoundIs env lo 0 l) (hm : BoundIs env hi es.length m)
   (h1 : l ≤ m) (h2 : m ≤ es.length) : APure P N o env (.sl sz ((es.drop l).take (m - l))) := by
 intro F h a w st
 have hr := st.ev hx
 generalize hv : a.eval x = v at hr
 obtain ⟨el, g, hu, hs⟩ := elemSize_spec ht
 have hlen : ((es.drop l).take (m - l)).length = m - l := by simp; omega
 cases hr with
 | sl0 _ a0 c =>
   simp only [List.length_nil, Nat.le_zero] at h2
   obtain rfl : m = 0 := h2
   obtain rfl : l = 0 := by omega
   refine ⟨.slice (if c = 0 then a0 else a0.map (·.add (0 * sz))) 0 c, .sl0 _ _ _, fun w' => ?_⟩
   simp only [execOp, ho, hv, Instr.sliceAt, Instr.slice, Sem.run_bind, Sem.run_pure, Result.andThen_ok, run_underlying' hu, Option.map_none]
   have := run_bounds (P := P) st hl (len := 0) (cap := c) hm (by omega) (by omega) true w'
   simp only [this, Result.andThen_ok, run_sizeOf hs, Sem.run_bind, Sem.run_pure]
   simp
 | sl _ _ b p c X hF hc hz hX h1' hR =>
   have hrun : ∀ w', (execOp a.eval o).run P w' = .ok (.value (.slice (if c = l then some ⟨b, p, none⟩ else some ⟨b, p + l * sz, none⟩) (m - l) (c - l))) w' := fun w' => by
     simp only [execOp, ho, hv, Instr.sliceAt, Instr.slice, Sem.run_bind, Sem.run_pure, Result.andThen_ok, run_underlying' hu, Option.map_none]
     have := run_bounds (P := P) st hl (len := es.length) (cap := c) hm h1 (by omega) true w'
     simp only [this, Result.andThen_ok, run_sizeOf hs, Sem.run_bind, Sem.run_pure]
     simp [add_none]
   by_cases hlm : l = m
   ·subst hlm
    refine ⟨_, ?_, hrun⟩
    simp only [Nat.sub_self, List.take_zero]
    exact .sl0 _ _ _
   ·have hne : ¬ c = l := by omega
    rw [if_neg hne] at hrun
    refine ⟨_, ?_, hrun⟩
    have hget : ∀ i, i < m - l → ((es.drop l).take (m - l))[i]? = es[l + i]? := fun i hi => by rw [List.getElem?_take, if_pos hi, List.getElem?_drop]
    have := Rep.sl (F := F) (w := w) sz ((es.drop l).take (m - l)) b (p + l * sz) (c - l) (fun i j => X (l + i) j) hF (by rw [hlen]; omega) (fun e he => hz e (List.mem_of_mem_drop (List.mem_of_mem_take he)))
      (fun i j hi hj => by rw [hlen] at hi; have := hX (l + i) j (by omega) hj; rw [← this]; congr 2; rw [Nat.add_mul]; omega)
      (fun i j hi hj => h1' _ _ (by rw [hlen] at hi; omega) hj)
      (fun i j e av hi hj => by
        have hlt : i < m - l := by rw [← hlen]; exact (List.getElem?_eq_some_iff.1 hi).1
        rw [hget i hlt] at hi
        exact hR (l + i) j e av hi hj)
    rw [hlen] at this
    exact this
theorem pQuoI {o : Oper} {t t' : TypeId} {xo yo : Operand} {x y : Int} (ho : o.op = .binOp .quo t xo yo t') (hx : ev env xo = some (.int x)) (hy : ev env yo = some (.int y)) (h0 : y ≠ 0) (h1 : -9223372036854775808 ≤ x.tdiv y) (h2 : x.tdiv y < 9223372036854775808) : APure P N o env (.int (x.tdiv y)) := by
 have := pQuo (P := P) (N := N) ho hx hy h0
 rwa [wrap_i64 h1 h2] at this
theorem spl_last {x : HA} : ∀ {l : List HA}, Spl (l ++ [x]) x l
 | [] => .hd
 | _ :: _ => .tl spl_last
theorem tk_refl : ∀ {h : List HA}, Tk h h []
 | [] => .nil
 | _ :: _ => .cons .hd tk_refl
theorem weak_heap {h' r : List HA} (ht : Tk h h' r) : Weak N env h env h' := fun F a w s =>
 ⟨F, ⟨s.r.sub ht, s.size, s.env⟩, (Ext.refl F h w).subR ht⟩
open Go.Proofs.YthkgdhamnpiagaaGreatW.PrintLast (wpAnyLast one_ two_ readyB readyT)
def WantT (N : Nat) (ops : Array Oper) (o : Oper) (env : Env) (h : List HA) : Prop := ∀ F a w, Sat N F env h a w → Region.wanted o (yielded ops a.tmps) = true
theorem wantN {ops : Array Oper} {o : Oper} (hg : o.guard = none) : WantT N ops o env h := fun _ _ _ _ => by simp [Region.wanted, hg]
def AStep (P : Program) (N : Nat) (ops : Array Oper) (ds : List Nat) (n : Nat) (l' : Array Bool) (o : Oper) (E0 : Env) (h0 : List HA) (env : Env) (h : List HA) (K : Cont) (X : List (Nat × Cont)) (Rt : Cont) : Prop :=
 ∀ (B : Base) F0 w0 F a w, Sat N F0 E0 h0 a w0 → Sat N F env h a w → Ext B.F B.h B.w F h w → a.defers = B.D → (∀ b, F0 b → F b) → (∀ b ∈ owns h0, b ∈ owns h ∨ F b) → Agree F0 h0 w0 w →
   ∀ K' : Act → World → Prop, Shut (∀ a' w', Agree F0 h0 w0 w' → (Agree F0 h0 w0 w' → wpAnyLast P .any ops (PostOf N B K X Rt) (Agree F0 h0 w0) ds n l' a' w') → K' a' w') →
     if Region.wanted o (yielded ops a.tmps) = true then Oper.wp P o a w K' (PostOf N B K X Rt) else K' (a.put o.dst undef) w
theorem stQ {ops : Array Oper} {ds : List Nat} {n : Nat} {o : Oper} {l' : Array Bool} {E0 : Env} {h0 : List HA} (hw : WantT N ops o env h) (hN : ∀ t, o.dst = some t → t < N)
   (hk : AOpQ P N o env h (fun env' h' => ADraw2 P N ops ds n l' (match o.dst with | some t => del t E0 | none => E0) h0 env' h' K X Rt)) : AStep P N ops ds n l' o E0 h0 env h K X Rt := by
 intro B F0 w0 F a w s0 s e hdef hF hO hS K' hK'
 rw [if_pos (hw F a w s)]
 refine Oper.wp_mono ?_ (puts o a w _ _ (hk B F a w _ s e hdef))
 intro a' w' ⟨⟨hd', F', env', h', hk', s', e', hag, hF', hO'⟩, x, D, ha⟩
 have hS' : Agree F0 h0 w0 w' := fun b hb => by
   rw [hag b (by rcases hb with hb | hb; exact .inl (hF b hb); exact (hO b hb).symm), hS b hb]
 refine hK'.out a' w' hS' (fun _ => hk' B F0 w0 F' a' w' (s0.delD hN ha) s' e' hd' (fun b hb => hF' b (hF b hb)) (fun b hb => ?_) hS')
 rcases hO b hb with h1 | h1
 ·exact hO' b h1
 ·exact .inr (hF' b h1)
/-- An operation that changes what is no part of what stood at the start. -/
theorem stA {ops : Array Oper} {ds : List Nat} {n : Nat} {o : Oper} {l' : Array Bool} {E0 : Env} {h0 hx rest r0 : List HA} (hw : WantT N ops o env h) (hN : ∀ t, o.dst = some t → t < N) (ht : Tk h hx rest) (ht0 : Tk rest h0 r0)
   (hk : AOp P N o env hx (fun env' h' => ADraw2 P N ops ds n l' (match o.dst with | some t => del t E0 | none => E0) h0 env' (h' ++ rest) K X Rt)) : AStep P N ops ds n l' o E0 h0 env h K X Rt := by
 intro B F0 w0 F a w s0 s e hdef hF hO hS K' hK'
 rw [if_pos (hw F a w s)]
 have rp := s.r.perm ht.perm
 have hnd : (owns hx ++ owns rest).Nodup := by rw [← owns_append]; exact rp.nd
 refine Oper.wp_mono ?_ (puts o a w _ _ (hk ⟨F, hx, w, a.defers⟩ F a w _ ⟨s.r.sub ht, s.size, s.env⟩ (.refl F hx w) rfl))
 intro a' w' ⟨⟨hd', F', env', h', hk', s', e'⟩, x, D, ha⟩
 obtain ⟨R2, E2⟩ := rp.frame s'.r e'
 have hrest : ∀ b ∈ owns h0, b ∈ owns rest := fun b hb => (owns_perm ht0.perm).mem_iff.2 (by rw [owns_append]; exact List.mem_append_left _ hb)
 have hS' : Agree F0 h0 w0 w' := fun b hb => by
   have hk1 : w'.heap[b]? = w.heap[b]? := by
     rcases hb with hb | hb
     ·exact e'.keep b (s.r.sep b (hF b hb)).1 (fun hm => (s.r.sep b (hF b hb)).2 ((owns_perm ht.perm).mem_iff.2 (by rw [owns_append]; exact List.mem_append_left _ hm)))
     ·exact e'.keep b (rp.lt b (by rw [owns_append]; exact List.mem_append_right _ (hrest b hb))) (fun hm => (List.nodup_append.1 hnd).2.2 b hm b (hrest b hb) rfl)
   rw [hk1, hS b hb]
 refine hK'.out a' w' hS' (fun _ => hk' B F0 w0 F' a' w' (s0.delD hN ha) ⟨R2, s'.size, s'.env⟩ (e.trans (E2.permL ht.perm.symm)) (hd'.trans hdef) (fun b hb => e'.mono b (hF b hb)) (fun b hb => .inl (by rw [owns_append]; exact List.mem_append_right _ (hrest b hb))) hS')
theorem eOneS {ops : Array Oper} {ds : List Nat} {n i : Nat} {o : Oper} {l : Array Bool} {E0 : Env} {h0 : List HA} (l' : Array Bool) (hi : ops[i]? = some o) (hc : readyB .any ops l l' i = true) (hd : i ∉ ds)
   (hk : AStep P N ops ds n l' o E0 h0 env h K X Rt) : ADraw2 P N ops ds (n + 1) l E0 h0 env h K X Rt := by
 intro B F0 w0 F a w s0 s e hdef hF hO hS
 exact one_ l' hi rfl hc hd (fun K' hK' => hk B F0 w0 F a w s0 s e hdef hF hO hS K' hK')
theorem eTwoS {ops : Array Oper} {ds : List Nat} {n i j : Nat} {oi oj : Oper} {l : Array Bool} {E0 : Env} {h0 : List HA} (li lj : Array Bool) (hi : ops[i]? = some oi) (hj : ops[j]? = some oj) (hc : (Region.ready .any ops l == [i, j] && l.setIfInBounds i true == li && l.setIfInBounds j true == lj) = true) (hdi : i ∉ ds) (hdj : j ∉ ds)
   (hki : AStep P N ops ds n li oi E0 h0 env h K X Rt) (hkj : AStep P N ops ds n lj oj E0 h0 env h K X Rt) : ADraw2 P N ops ds (n + 1) l E0 h0 env h K X Rt := by
 intro B F0 w0 F a w s0 s e hdef hF hO hS
 exact two_ li lj hi hj rfl rfl hc hdi hdj (fun K' hK' => hki B F0 w0 F a w s0 s e hdef hF hO hS K' hK') (fun K' hK' => hkj B F0 w0 F a w s0 s e hdef hF hO hS K' hK')
open Go.Proofs.YthkgdhamnpiagaaGreatW.PrintLast (ready_eq set_of)
theorem Tab.two {ops : Array Oper} {T : Bool × List (List Nat × List Nat)} {Bs : List Nat} {l li lj : Array Bool} {i j : Nat} (t : Tab ops T Bs) (h : (readyT T.2 l.toList == [i, j] && l.toList.set i true == li.toList && l.toList.set j true == lj.toList) = true) :
   (Region.ready .any ops l == [i, j] && l.setIfInBounds i true == li && l.setIfInBounds j true == lj) = true := by
 have hT := t.t
 subst hT
 simp only [Bool.and_eq_true] at h ⊢
 exact ⟨⟨by rw [ready_eq]; exact h.1.1, set_of h.1.2⟩, set_of h.2⟩
end A
end Go.Proofs.YthkgdhamnpiagaaGreat
