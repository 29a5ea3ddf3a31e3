/- A part of the proof of ExprChecks: texts of this claim, merged. -/
import Derived.RangeFuncLeaves
import Derived.RangeFuncOwn
import Derived.RecoverIn
import Derived.ControlIn
import Derived.Laws.MakeOwn
import Derived.LoopNIn
import Derived.Laws.StructEq
import Derived.Test.YtiledamgmppcmaaGreatDoorZExprChecks3
/-! ExN -/
namespace Go.Proofs.YtiledamgmppcmaaGreatDoor
open Go.RowKit
mutual
/-- No name is longer than a length can say. -/
def Ex.small : Ex → Prop
  | .mk _ _ s l => s.size ≤ 9223372036854775807 ∧ smallL l
def smallL : List Ex → Prop
  | [] => True
  | x :: l => x.small ∧ smallL l
end
theorem small_eq {x : Ex} (h : x.small) : x.name.size ≤ 9223372036854775807 ∧ smallL x.args := by cases x; exact h
theorem smallL_get : ∀ {l : List Ex} {j : Nat} {x : Ex}, smallL l → l[j]? = some x → x.small
  | [], j, x, _, h => by simp at h
  | y :: l, 0, x, hs, h => by simp at h; subst h; exact hs.1
  | y :: l, j + 1, x, hs, h => by simp at h; exact smallL_get hs.2 h
theorem rowsD_get {G : Nat → Nat → Prop} {w : World} {k b : Nat} : ∀ {l : List (List DV)} {o j : Nat} {e : List DV}, RowsD G w k l b o → l[j]? = some e → CellsD G w e b (o + j * k)
  | [], o, j, e, _, h => by simp at h
  | y :: l, o, 0, e, hr, h => by simp at h; subst h; simp only [RowsD] at hr; simpa using hr.2.1
  | y :: l, o, j + 1, e, hr, h => by
    simp at h
    simp only [RowsD] at hr
    have := rowsD_get hr.2.2 h
    rwa [show o + k + j * k = o + (j + 1) * k from by rw [Nat.succ_mul]; omega] at this
theorem exD_eq (x : Ex) : exD x = [.v (.int .i64 x.op), .v (.int .i64 x.n), .v (.string x.name), .sl 4 (exDs x.args)] := by cases x; rfl
theorem argsAt_of {G : Nat → Nat → Prop} {w : World} : ∀ (n : Nat) (l : List Ex) (u : Value), hgts l ≤ n → smallL l → RepD G w (.sl 4 (exDs l)) u → ArgsAt w u l := by
  intro n
  induction n with
  | zero =>
    intro l u hn hs hr
    have : l = [] := by
      cases l with
      | nil => rfl
      | cons x r => cases x; simp [hgts, Ex.hgt] at hn
    subst this
    simp only [RepD] at hr
    obtain ⟨p, cap, rfl, h1, h2, _⟩ := hr
    exact .mk p cap [] (fun _ => .nilIface) (by simp) h2 (fun h => absurd rfl h) (by simp) (by simp)
  | succ n ih =>
    intro l u hn hs hr
    simp only [RepD] at hr
    obtain ⟨p, cap, rfl, h1, h2, h3⟩ := hr
    rw [exDs_length] at h1 ⊢
    by_cases hl : l = []
    · subst hl
      exact .mk p cap [] (fun _ => .nilIface) (by simp) h2 (fun h => absurd rfl h) (by simp) (by simp)
    obtain ⟨b, o, rfl, _, h5⟩ := h3 (by intro e; apply hl; have := exDs_length l; rw [e] at this; exact List.eq_nil_of_length_eq_zero this.symm)
    have key : ∀ (j : Nat) (x : Ex), l[j]? = some x → w.cell? ⟨b, o + j * 4, none⟩ = some (.int .i64 x.op) ∧ w.cell? ⟨b, o + j * 4 + 1, none⟩ = some (.int .i64 x.n) ∧ w.cell? ⟨b, o + j * 4 + 2, none⟩ = some (.string x.name) ∧
        ∃ s, w.cell? ⟨b, o + j * 4 + 3, none⟩ = some s ∧ RepD G w (.sl 4 (exDs x.args)) s := by
      intro j x hx
      have h6 := rowsD_get (j := j) (e := exD x) h5 (by rw [exDs_map]; simp [hx])
      rw [exD_eq] at h6
      simp only [CellsD] at h6
      obtain ⟨⟨u0, c0, r0⟩, ⟨u1, c1, r1⟩, ⟨u2, c2, r2⟩, ⟨u3, c3, r3⟩, _⟩ := h6
      simp only [RepD] at r0 r1 r2
      rw [r0.1] at c0; rw [r1.1] at c1; rw [r2.1] at c2
      exact ⟨c0, c1, c2, u3, c3, r3⟩
    refine .mk _ cap l (fun j => (w.cell? ⟨b, o + j * 4 + 3, none⟩).getD .nilIface) h1 h2 (fun _ => ⟨b, o, rfl, fun j x hx => ?_⟩) (fun j x hx => (small_eq (smallL_get hs hx)).1) (fun j x hx => ?_)
    · obtain ⟨k0, k1, k2, s, k3, _⟩ := key j x hx
      exact ⟨k0, k1, k2, by simp [k3]⟩
    · obtain ⟨_, _, _, s, k3, k4⟩ := key j x hx
      rw [k3]
      refine ih x.args s ?_ (small_eq (smallL_get hs hx)).2 k4
      have := hgt_mem (List.mem_of_getElem? hx)
      cases x; simp only [Ex.hgt] at this; simp only [Ex.args]; omega
theorem exAt_of {K : Kx} {w : World} {x : Ex} {u : Value} (hs : x.small) (h : Rep K w (exP x) u) : ExAt w u x := by
  simp only [exP, Rep, RepL] at h
  obtain ⟨cs, rfl, u0, us0, rfl, r0, u1, us1, rfl, r1, u2, us2, rfl, r2, u3, us3, rfl, r3, rfl⟩ := h
  simp only [Rep, RepD] at r0 r1 r2
  rw [r0.1, r1.1, r2.1]
  exact ⟨u3, rfl, (small_eq hs).1, argsAt_of _ x.args u3 (Nat.le_refl _) (small_eq hs).2 (by simpa only [Rep] using r3)⟩
theorem check_do (x : Ex) (hs : x.small) : Does 18 [exP x] ⟨[], []⟩ (.ret (intP (checkX x))) ⟨[], []⟩ := by
  refine does_calls Tryz.func18 rfl rfl rfl fun K w vs _ hA => ?_
  simp only [RepL] at hA
  obtain ⟨u, us, rfl, hr, rfl⟩ := hA
  exact xcheck_any u x w (exAt_of hs hr)
theorem right_do (x : Ex) (hs : x.small) : Does 51 [exP x] ⟨[], []⟩ (.ret (boolP (validX x))) ⟨[], []⟩ := by
  refine does_calls Tryz.func51 rfl rfl rfl fun K w vs _ hA => ?_
  simp only [RepL] at hA
  obtain ⟨u, us, rfl, hr, rfl⟩ := hA
  exact rightX_any u x w (exAt_of hs hr)
end Go.Proofs.YtiledamgmppcmaaGreatDoor
/-! PlU -/
namespace Go.Proofs.YtiledamgmppcmaaGreatDoor
open Go.RowKit
theorem does_coe {f : Nat} {args : List PV} {S S' : PS} {r r' : PV} (h : Does f args S (.ret r') S') (hc : Coe S' r' r) : Does f args S (.ret r) S' :=
  ⟨h.1, fun K w vs hI hA => (h.2 K w vs hI hA).mono fun _ w' ⟨K', h1, h2, v, he, hr⟩ => ⟨K', h1, h2, v, he, hc K' w' v h2 hr⟩⟩
theorem does_cut {f : Nat} {args : List PV} {S S' : PS} {r : PV} (n m : Nat) (h : Does f args S (.ret r) S') (hn : S.boxes.length ≤ n) (hm : S.toks.length ≤ m) (hall : (S'.boxes.take n).all (fun c => PV.ltL n m c) = true) (hr : r.lt n m = true) : Does f args S (.ret r) (S'.cut n m) :=
  ⟨h.1, fun K w vs hI hA => (h.2 K w vs hI hA).mono fun _ _ ⟨K', h1, h2, v, he, hv⟩ => ⟨K'.cut n m, step_cut hI h1 hn hm, h2.cut hall, v, he, Rep.cut _ _ hr hv⟩⟩
theorem coe_aggs {S : PS} {l l' : List PV} (h : CoeL S l l') : Coe S (.agg l) (.agg l') := fun K w u hI hr => by
  simp only [Rep] at hr ⊢
  obtain ⟨cs, h1, h2⟩ := hr
  exact ⟨cs, h1, CoeL.rep hI h h2⟩
theorem coe_tups {S : PS} {l l' : List PV} (h : CoeL S l l') : Coe S (.tup l) (.tup l') := fun K w u hI hr => by
  simp only [Rep] at hr ⊢
  obtain ⟨cs, h1, h2⟩ := hr
  exact ⟨cs, h1, CoeL.rep hI h h2⟩
theorem coe_nil {S : PS} {k : Nat} : Coe S (.d (.v (.slice none 0 0))) (.d (.sl k [])) := coe_s rfl

section
variable {N : Nat} {ops : Array Oper} {rest : List Oper} {o : Oper} {F : Nat → PV} {S S' : PS} {q : WRes → Prop} {c : Operand} {al : Array Operand} {ats : Array TypeId} {f : Nat} {caps args : List PV}
theorem passes_tok {t : Nat} {T : RTok} (h : S.toks[t]? = some T) : Passes S ⟨[], [T]⟩ [] [t] := by
  refine ⟨by simp, by simp, rfl, rfl, fun i j h => by simp at h, fun i j hi => ?_, by simp⟩
  cases i with
  | zero => simp at hi; subst hi; simp [h]
  | succ i => simp at hi
theorem after_tok {t : Nat} {T : RTok} : S.after [] [t] ⟨[], [T]⟩ = S.setTok t T := by
  cases S; simp [PS.after, updL, PS.setTok]
/-- A call that is handed a row, and hands it back. -/
theorem wct {t v : Nat} {T T' : RTok} (hD : Does f args ⟨[], [T]⟩ (.ret (.hd 0 v)) ⟨[], [T']⟩) (hg : guardP ops F o = some true) (ho : o.op = .call { callee := .value c, args := al, argTypes := ats }) (hc : evP F c = .fn f caps) (hT : S.toks[t]? = some T)
    (hlt : PV.ltL 0 1 args = true) (ha : CoeL S (al.toList.map (evP F) ++ caps) (PV.renL (fbN []) (ftN [t] S.toks.length) args)) (hS : S.setTok t T' = S') (kk : WK Tryz.prog N ops rest (putP N o.dst (.hd t v) F) S' q) : WK Tryz.prog N ops (o :: rest) F S q := by
  subst hS
  have h := ops_call ho hD.1 hc (passes_tok hT) ha hlt rfl hD.2
  rw [after_tok] at h
  exact wk_op hg h kk
/-- A call whose first argument is a nil slice that begins a row. -/
theorem ops_nilcall {k e : Nat} {T' : RTok} {ps : List PV} {r : PV} (ho : o.op = .call { callee := .value c, args := al, argTypes := ats }) (hc : evP F c = .fn f caps) (hal : al.toList.map (evP F) ++ caps = .d (.v (.slice none 0 0)) :: ps)
    (ha : CoeL (S.addTok ⟨0, k, [], e⟩) ps (PV.renL (fbN []) (ftN [S.toks.length] (S.addTok ⟨0, k, [], e⟩).toks.length) args)) (hlt : PV.ltL 0 1 args = true) (hD : Does f (.hd 0 0 :: args) ⟨[], [⟨0, k, [], e⟩]⟩ (.ret r) ⟨[], [T']⟩) :
    OpS Tryz.prog o F S (r.ren (fbN []) (ftN [S.toks.length] (S.addTok ⟨0, k, [], e⟩).toks.length)) ((S.addTok ⟨0, k, [], e⟩).after [] [S.toks.length] ⟨[], [T']⟩) := by
  intro ro mm K w a next Q hI hx hn
  obtain ⟨vs, h1, h2⟩ := run_call ho hD.1 hc hx
  rw [hal] at h2
  simp only [RepL] at h2
  obtain ⟨u, us, rfl, hu, h2⟩ := h2
  rw [rep_v hu] at h1
  obtain ⟨K1, m1, m2, m3⟩ := hI.mint k e
  have hT : (S.addTok ⟨0, k, [], e⟩).toks[S.toks.length]? = some ⟨0, k, [], e⟩ := by simp [PS.addTok]
  have hp := passes_tok hT
  have h3 : RepL (subK K1 [] [S.toks.length]) w (.hd 0 0 :: args) (.slice none 0 0 :: us) := by
    refine subL_unren m1 hp (by simp only [PV.ltL, PV.lt, Bool.and_eq_true]; exact ⟨by simp, hlt⟩) ?_
    simp only [PV.renL, PV.ren, RepL]
    exact ⟨_, _, rfl, m3, CoeL.rep m1 ha (RepL.step m2 _ _ h2)⟩
  refine wpIn_ent h1 ((hD.2 (subK K1 [] [S.toks.length]) w _ (m1.sub hp) h3).mono ?_)
  rintro e w' ⟨K0', hs, hI', v, rfl, hr⟩
  exact hn v w' (aftK K1 K0' [S.toks.length]) (m2.trans hI (aft_step m1 hp hs)) (aft_inv m1 hp hs hI' rfl) ((aft_rep m1 hp hs hI' rfl).1 r v hr)
theorem wctN {k e v : Nat} {T' : RTok} {ps : List PV} (hD : Does f (.hd 0 0 :: args) ⟨[], [⟨0, k, [], e⟩]⟩ (.ret (.hd 0 v)) ⟨[], [T']⟩) (hg : guardP ops F o = some true) (ho : o.op = .call { callee := .value c, args := al, argTypes := ats }) (hc : evP F c = .fn f caps) (hal : al.toList.map (evP F) ++ caps = .d (.v (.slice none 0 0)) :: ps)
    (ha : CoeL (S.addTok ⟨0, k, [], e⟩) ps (PV.renL (fbN []) (ftN [S.toks.length] (S.addTok ⟨0, k, [], e⟩).toks.length) args)) (hlt : PV.ltL 0 1 args = true) (hS : S.addTok T' = S') (kk : WK Tryz.prog N ops rest (putP N o.dst (.hd S.toks.length v) F) S' q) : WK Tryz.prog N ops (o :: rest) F S q := by
  subst hS
  have h := ops_nilcall (S := S) ho hc hal ha hlt hD
  rw [after_tok] at h
  have e2 : (S.addTok ⟨0, k, [], e⟩).setTok S.toks.length T' = S.addTok T' := by cases S; simp [PS.addTok, PS.setTok]
  rw [e2] at h
  exact wk_op hg h kk
end
end Go.Proofs.YtiledamgmppcmaaGreatDoor
/-! PlV -/
namespace Go.Proofs.YtiledamgmppcmaaGreatDoor
open Go.RowKit

/-- What is owed: the calls of a loop's rounds, or a call of a closure. -/
inductive DefP where
  | mark
  | call (g : Nat) (caps : List PV)
def MarkAt (b0 : Nat) (K : Kx) (w : World) (k : Nat) : Prop := b0 ≤ k ∧ w.heap[k]? = some (.deferred (some [])) ∧ k ∉ K.β ∧ ∀ (t : Nat) (c : TokC) (lo : Nat), K.τ[t]? = some c → TokC.blk c ≠ some (k, lo)
theorem MarkAt.step {b0 k : Nat} {K K' : Kx} {w w' : World} (h : MarkAt b0 K w k) (hs : Step K K' w w') : MarkAt b0 K' w' k := by
  obtain ⟨h0, h1, h2, h3⟩ := h
  have hlt : k < w.heap.size := (Array.getElem?_eq_some_iff.1 h1).1
  refine ⟨h0, (hs.blocks k hlt h2 h3).trans h1, fun hm => ?_, fun t c lo ht hc => ?_⟩
  · rcases hs.βnew _ hm with h4 | h4
    · exact h2 h4
    · omega
  · rcases hs.τnew t c _ lo ht hc with h4 | ⟨t0, c0, lo0, h4, h5, _⟩
    · omega
    · exact h3 t0 c0 lo0 h4 h5
def DefReps (b0 : Nat) (K : Kx) (w : World) : List DefP → List Deferred → Prop
  | [], ds => ds = []
  | .mark :: D, ds => ∃ k r, ds = { target := .collected k, args := #[] } :: r ∧ MarkAt b0 K w k ∧ (∀ d ∈ r, d.target ≠ .collected k) ∧ DefReps b0 K w D r
  | .call g caps :: D, ds => ∃ (cs : List Value) (r : List Deferred), ds = { target := .fn (.func g) cs.toArray, args := #[] } :: r ∧ RepL K w caps cs ∧ DefReps b0 K w D r
theorem DefReps.step {b0 : Nat} {K K' : Kx} {w w' : World} (hs : Step K K' w w') : ∀ {D : List DefP} {ds : List Deferred}, DefReps b0 K w D ds → DefReps b0 K' w' D ds
  | [], _, h => h
  | .mark :: _, _, ⟨k, r, h1, h2, h3, h4⟩ => ⟨k, r, h1, h2.step hs, h3, h4.step hs⟩
  | .call _ _ :: _, _, ⟨cs, r, h1, h2, h3⟩ => ⟨cs, r, h1, RepL.step hs _ _ h2, h3.step hs⟩

def QD (b0 : Nat) (K : Kx) (w : World) (N : Nat) (Q : Exit → (Nat → PV) → PS → List DefP → Prop) (e : Exit) (a' : Act) (w' : World) : Prop :=
  ∃ K' F' S' D', Step K K' w w' ∧ Inv K' S' w' ∧ FrameRep K' w' N F' a' ∧ DefReps b0 K' w' D' a'.defers ∧ Q e F' S' D'
/-- From these slots, this state and these debts the code ends so. -/
structure PD (P : Program) (N : Nat) (c : Code) (Q : Exit → (Nat → PV) → PS → List DefP → Prop) (F : Nat → PV) (S : PS) (D : List DefP) : Prop where
  run : ∀ (b0 : Nat) (K : Kx) (w : World) (a : Act), b0 ≤ w.heap.size → Inv K S w → FrameRep K w N F a → DefReps b0 K w D a.defers → c.wp P (QD b0 K w N Q) a w
def thenD (next : (Nat → PV) → PS → List DefP → Prop) (Q : Exit → (Nat → PV) → PS → List DefP → Prop) : Exit → (Nat → PV) → PS → List DefP → Prop
  | .normal, F, S, D => next F S D
  | e, F, S, D => Q e F S D
def blockD (id : Nat) (Q : Exit → (Nat → PV) → PS → List DefP → Prop) : Exit → (Nat → PV) → PS → List DefP → Prop
  | .exit i, F, S, D => bif Nat.beq i id then Q .normal F S D else Q (.exit i) F S D
  | e, F, S, D => Q e F S D

section
variable {P : Program} {N : Nat} {Q : Exit → (Nat → PV) → PS → List DefP → Prop} {F : Nat → PV} {S : PS} {D : List DefP}
theorem QD.step {b0 : Nat} {K K' : Kx} {w w' : World} {S0 : PS} (hI : Inv K S0 w) (hs : Step K K' w w') {e : Exit} {a : Act} {w2 : World} (h : QD b0 K' w' N Q e a w2) : QD b0 K w N Q e a w2 := by
  obtain ⟨K2, F2, S2, D2, h1, h2, h3, h4, h5⟩ := h
  exact ⟨K2, F2, S2, D2, hs.trans hI h1, h2, h3, h4, h5⟩
theorem pd_pw {c : Code} (h : PW P N c (fun e F S => Q e F S D) F S) : PD P N c Q F S D := by
  refine ⟨fun b0 K w a _ hI hF hD => wp_mono (h.run0 K w a hI hF) fun e a' w' hq => ?_⟩
  obtain ⟨K', F', S', h1, h2, h3, h4, h5⟩ := hq
  exact ⟨K', F', S', D, h1, h2, h3, by rw [h4]; exact hD.step h1, h5⟩
theorem pd_norm {c : Code} (L : List (Nat × PV)) (h : FrLe L F) (k : PD P N c Q (fr L) S D) : PD P N c Q F S D := ⟨fun b0 K w a hb hI hF hD => k.run b0 K w a hb hI (fr_rep h hF) hD⟩
theorem pd_seq {x y : Code} (h : PD P N x (thenD (PD P N y Q) Q) F S D) : PD P N (.seq x y) Q F S D := by
  refine ⟨fun b0 K w a hb hI hF hD => ?_⟩
  refine wp_seq (wp_mono (h.run b0 K w a hb hI hF hD) fun e a' w' hq => ?_)
  obtain ⟨K', F', S', D', h1, h2, h3, h4, h5⟩ := hq
  cases e with
  | normal => exact wp_mono (PD.run h5 b0 K' w' a' (Nat.le_trans hb h1.size) h2 h3 h4) fun e a2 w2 hq => hq.step hI h1
  | ret => exact ⟨K', F', S', D', h1, h2, h3, h4, h5⟩
  | exit id => exact ⟨K', F', S', D', h1, h2, h3, h4, h5⟩
  | goto l => exact ⟨K', F', S', D', h1, h2, h3, h4, h5⟩
  | panic c => exact ⟨K', F', S', D', h1, h2, h3, h4, h5⟩
  | outgrown => exact ⟨K', F', S', D', h1, h2, h3, h4, h5⟩
theorem pd_block {id : Nat} {c : Code} (h : PD P N c (blockD id Q) F S D) : PD P N (.block id c) Q F S D := by
  refine ⟨fun b0 K w a hb hI hF hD => ?_⟩
  refine wp_block (wp_mono (h.run b0 K w a hb hI hF hD) fun e a' w' hq => ?_)
  obtain ⟨K', F', S', D', h1, h2, h3, h4, h5⟩ := hq
  cases e with
  | exit i =>
    simp only [Exit.inBlock]
    simp only [blockD] at h5
    split
    · rename_i e; subst e; rw [show Nat.beq i i = true from by simp] at h5; exact ⟨K', F', S', D', h1, h2, h3, h4, h5⟩
    · rename_i e
      cases hb : Nat.beq i id with
      | true => exact absurd (Nat.eq_of_beq_eq_true hb) e
      | false => rw [hb] at h5; exact ⟨K', F', S', D', h1, h2, h3, h4, h5⟩
  | normal => exact ⟨K', F', S', D', h1, h2, h3, h4, h5⟩
  | ret => exact ⟨K', F', S', D', h1, h2, h3, h4, h5⟩
  | goto l => exact ⟨K', F', S', D', h1, h2, h3, h4, h5⟩
  | panic c => exact ⟨K', F', S', D', h1, h2, h3, h4, h5⟩
  | outgrown => exact ⟨K', F', S', D', h1, h2, h3, h4, h5⟩
/-- A call that is put off. -/
theorem pd_defer {id : Nat} {o1 o2 : Oper} {g : Nat} {cs : Array Operand} {t : Nat} {ats : Array TypeId} (h1 : o1.op = .makeFunc (.func g) #[] cs) (h2 : o2.op = .defer { callee := .value (.tmp t), args := #[], argTypes := ats }) (hd : o1.dst = some t) (hd2 : o2.dst = none) (hg : o1.guard = none) (hg2 : o2.guard = none) (ht : t < N)
    (h : Q .normal (putP N (some t) (.fn g (cs.toList.map (evP F))) F) S (.call g (cs.toList.map (evP F)) :: D)) : PD P N (.region id #[o1, o2] false) Q F S D := by
  refine ⟨fun b0 K w a hb hI hF hD => ?_⟩
  refine wp_region ?_
  have e1 : ∀ (Y : Array Value), Region.wanted o1 (yielded #[o1, o2] Y) = true := fun Y => by unfold Region.wanted; rw [hg]
  have e2 : ∀ (Y : Array Value), Region.wanted o2 (yielded #[o1, o2] Y) = true := fun Y => by unfold Region.wanted; rw [hg2]
  show wpOps P #[o1, o2] _ [0, 1] a w
  simp only [wpOps, List.getElem?_toArray, List.getElem?_cons_zero, List.getElem?_cons_succ, e1, e2, if_true]
  have hr : Rep K w (.fn g (cs.toList.map (evP F))) (.func (.func g) #[] (cs.map a.eval)) := by
    simp only [Rep]
    refine ⟨cs.toList.map a.eval, by congr 1; apply Array.ext'; simp, repL_eval cs.toList fun x _ => hF.ev x⟩
  have s1 := Step.refl K w
  refine .inl ?_
  unfold Oper.wp
  rw [show (execOp a.eval o1).run P w = .ok (.value (.func (.func g) #[] (cs.map a.eval))) w from by simp [execOp, h1, Instr.makeFunc], Oper.upon_value]
  refine .inl ?_
  have hF' := hF.put (dst := some t) s1 hr
  rw [hd]
  obtain ⟨us, hus0, hus⟩ : ∃ us : List Value, cs.map a.eval = us.toArray ∧ RepL K w (cs.toList.map (evP F)) us := ⟨cs.toList.map a.eval, by apply Array.ext'; simp, repL_eval cs.toList fun x _ => hF.ev x⟩
  rw [hus0] at hF' ⊢
  have hI' := hI
  have hv : (a.put (some t) (.func (.func g) #[] us.toArray)).eval (.tmp t) = .func (.func g) #[] us.toArray := by
    have h6 := put_getD (a := a) (dst := some t) (v := .func (.func g) #[] us.toArray) (t := t) hF.size
    simpa [Act.eval, ht] using h6
  have hrun : (execOp (a.put (some t) (.func (.func g) #[] us.toArray)).eval o2).run P w = .ok (.defer { target := .fn (.func g) us.toArray, args := #[] }) w := by
    simp only [execOp, h2, resolve, hv, Deferred.ofValue, Sem.run_bind, Sem.run_pure, Result.andThen_ok, List.map_toArray, List.map_nil, Array.append_empty]
  rw [hrun, Oper.upon_defer, hd2]
  refine ⟨K, putP N (some t) (.fn g (cs.toList.map (evP F))) F, S, .call g (cs.toList.map (evP F)) :: D, s1, hI', ⟨hF'.size, hF'.rep⟩, ?_, h⟩
  refine ⟨us, a.defers, ?_, hus, hD.step s1⟩
  show _ :: (a.put (some t) _).defers = _
  rw [put_defers]
end

theorem cell_put {w : World} {k : Nat} {o o' : Obj} (h : w.heap[k]? = some o) (h1 : o.isCells = false) (h2 : o'.isCells = false) (a : Addr) : (w.putObj k o').cell? a = w.cell? a := by
  by_cases e : a.block = k
  · have hlt := (Array.getElem?_eq_some_iff.1 h).1
    unfold World.cell?
    rw [e, World.putObj_heap_same hlt, h]
    have key : ∀ x : Obj, x.isCells = false → (match some x with | some (Obj.cells c _ _) => if a.spot.isSome = true then none else c[a.off]? | _ => (none : Option Value)) = none := fun x hx => by
      cases x <;> first | rfl | (simp [Obj.isCells] at hx)
    exact (key o' h2).trans (key o h1).symm
  · exact World.cell?_of_block (World.putObj_heap_other e)
theorem good_put {K : Kx} {w : World} {k b hi : Nat} {o : Obj} (h : K.good w b hi) : K.good (w.putObj k o) b hi :=
  ⟨by rw [World.putObj_size]; exact h.1, h.2⟩
section
variable {K : Kx} {w : World} {k : Nat} {o o' : Obj} (h : w.heap[k]? = some o) (h1 : o.isCells = false) (h2 : o'.isCells = false)
include h h1 h2
theorem RepD.put {c : DV} {u : Value} (hr : RepD (K.good w) w c u) : RepD (K.good (w.putObj k o')) (w.putObj k o') c u := RepD.mono (fun _ _ hg => ⟨good_put hg, fun _ _ => cell_put h h1 h2 _⟩) c u hr
mutual
theorem Rep.putO : ∀ (p : PV) (u : Value), Rep K w p u → Rep K (w.putObj k o') p u
  | .any, u, _ => by simp [Rep]
  | .un, u, hr => by simpa only [Rep] using hr
  | .d c, u, hr => by simp only [Rep] at hr ⊢; exact RepD.put h h1 h2 hr
  | .agg l, u, hr => by
    simp only [Rep] at hr ⊢
    obtain ⟨cs, e1, e2⟩ := hr
    exact ⟨cs, e1, RepL.putO l cs e2⟩
  | .tup l, u, hr => by
    simp only [Rep] at hr ⊢
    obtain ⟨cs, e1, e2⟩ := hr
    exact ⟨cs, e1, RepL.putO l cs e2⟩
  | .ptr id off, u, hr => by simpa only [Rep] using hr
  | .ep l, u, hr => by
    simp only [Rep] at hr ⊢
    obtain ⟨b, o1, e1, e2, e3⟩ := hr
    exact ⟨b, o1, e1, good_put e2, CellsD.mono (fun _ _ hg => ⟨good_put hg, fun _ _ => cell_put h h1 h2 _⟩) l b o1 (fun _ _ => cell_put h h1 h2 _) e3⟩
  | .hd t n, u, hr => by simpa only [Rep] using hr
  | .bsl k' id off n cap, u, hr => by simpa only [Rep] using hr
  | .fn f caps, u, hr => by
    simp only [Rep] at hr ⊢
    obtain ⟨cs, e1, e2⟩ := hr
    exact ⟨cs, e1, RepL.putO caps cs e2⟩
theorem RepL.putO : ∀ (l : List PV) (us : List Value), RepL K w l us → RepL K (w.putObj k o') l us
  | [], us, hr => by simpa only [RepL] using hr
  | p :: ps, us, hr => by
    simp only [RepL] at hr ⊢
    obtain ⟨u, us', rfl, e1, e2⟩ := hr
    exact ⟨u, us', rfl, Rep.putO p u e1, RepL.putO ps us' e2⟩
end
theorem heap_put {b : Nat} {C : Array Value} {ty : TypeId} {f : Nat × Nat} (hb : w.heap[b]? = some (.cells C ty f)) : (w.putObj k o').heap[b]? = some (.cells C ty f) := by
  refine (World.putObj_heap_other ?_).trans hb
  rintro rfl
  rw [h] at hb; cases hb; cases h1
theorem Inv.putO {S : PS} (hI : Inv K S w) : Inv K S (w.putObj k o') where
  lenβ := hI.lenβ
  lenτ := hI.lenτ
  box i b c hb hc := by
    obtain ⟨C, ty, e1, e2, e3⟩ := hI.box i b c hb hc
    exact ⟨C, ty, heap_put h h1 h2 e1, RepL.putO h h1 h2 _ _ e2, e3⟩
  nodup := hI.nodup
  βM := hI.βM
  tok t T c hT hc := by
    obtain ⟨e1, u, e2, e3⟩ := hI.tok t T c hT hc
    refine ⟨e1, u, e2, ?_⟩
    rcases e3 with e3 | ⟨g, cap, cur, e3, e4, e5, e6, e7, e8, e9, e10⟩
    · exact .inl e3
    · exact .inr ⟨g, cap, cur, e3, e4, heap_put h h1 h2 e5, e6, e7, e8, good_put e9, RowsD.mono (fun _ _ hg => ⟨good_put hg, fun _ _ => cell_put h h1 h2 _⟩) T.l g 0 (fun _ _ => cell_put h h1 h2 _) e10⟩
  tokF := hI.tokF
  tokI := hI.tokI
  tokH := hI.tokH
  Mlt b hb := by rw [World.putObj_size]; exact hI.Mlt b hb
  Tlt b lo hb := by rw [World.putObj_size]; exact hI.Tlt b lo hb
  fz p hp := by
    obtain ⟨⟨ty, r, e1⟩, e2⟩ := hI.fz p hp
    exact ⟨⟨ty, r, heap_put h h1 h2 e1⟩, e2⟩
theorem FrameRep.putO {N : Nat} {F : Nat → PV} {a : Act} (hF : FrameRep K w N F a) : FrameRep K (w.putObj k o') N F a := ⟨hF.size, fun t => Rep.putO h h1 h2 _ _ (hF.rep t)⟩
/-- .. a block that the step itself has made. -/
theorem Step.putO {K0 : Kx} {w0 : World} (hs : Step K0 K w0 w) (hk : w0.heap.size ≤ k) : Step K0 K w0 (w.putObj k o') where
  os := hs.os
  tape := hs.tape
  output := hs.output
  size := by rw [World.putObj_size]; exact hs.size
  β := hs.β
  βnew := hs.βnew
  M := hs.M
  T := hs.T
  τ := hs.τ
  τnew := hs.τnew
  blocks b hb h3 h4 := (World.putObj_heap_other (by omega)).trans (hs.blocks b hb h3 h4)
  cells t c g lo i ht hc hg hi := (cell_put h h1 h2 _).trans (hs.cells t c g lo i ht hc hg hi)
end
theorem MarkAt.putO {b0 : Nat} {K : Kx} {w : World} {k k' : Nat} {o' : Obj} (h : MarkAt b0 K w k') (hne : k' ≠ k) : MarkAt b0 K (w.putObj k o') k' := ⟨h.1, (World.putObj_heap_other hne).trans h.2.1, h.2.2⟩
theorem DefReps.putO {b0 : Nat} {K : Kx} {w : World} {k : Nat} {o o' : Obj} (h : w.heap[k]? = some o) (h1 : o.isCells = false) (h2 : o'.isCells = false) : ∀ {D : List DefP} {ds : List Deferred}, (∀ d ∈ ds, d.target ≠ .collected k) → DefReps b0 K w D ds → DefReps b0 K (w.putObj k o') D ds
  | [], _, _, hd => hd
  | .mark :: D, _, hn, ⟨k', r, e1, e2, e3, e4⟩ => by
    subst e1
    refine ⟨k', r, rfl, e2.putO fun e => ?_, e3, e4.putO h h1 h2 fun d hd => hn d (List.mem_cons_of_mem _ hd)⟩
    subst e
    exact hn _ List.mem_cons_self rfl
  | .call _ _ :: D, _, hn, ⟨cs, r, e1, e2, e3⟩ => by
    subst e1
    exact ⟨cs, r, rfl, RepL.putO h h1 h2 _ _ e2, e3.putO h h1 h2 fun d hd => hn d (List.mem_cons_of_mem _ hd)⟩

def modeU : Option Value → FrameMode
  | none => .returning
  | some c => .panicking [{ v := c, recovered := false }]
/-- It recovers whatever has panicked, and leaves the state so. -/
def EvD (P : Program) (g : Nat) (caps : List PV) (S : PS) (u : Option Value) (S' : PS) : Prop :=
  ∀ (n : Nat) (K : Kx) (w : World) (vs : List Value), Inv K S w → RepL K w caps vs → CallsDIn Fence.wide n P g vs.toArray (modeU u) w fun e u' w' => (∃ v, e = .returned v) ∧ settle u' = .returning ∧ ∃ K', Step K K' w w' ∧ Inv K' S' w'
theorem callsDIn_mono {F : Fence} {n : Nat} {P : Program} {f : FuncId} {args : Array Value} {u : FrameMode} {w : World} {R R' : Ending → FrameMode → World → Prop} (h : CallsDIn F n P f args u w R) (hR : ∀ e u w, R e u w → R' e u w) : CallsDIn F n P f args u w R' :=
  ⟨h.1, fun c cs hm hr => let ⟨e, u', w', fr, h1, h2⟩ := h.2 c cs hm hr; ⟨e, u', w', fr, hR _ _ _ h1, h2⟩⟩

/-- What is owed is paid, in turn. -/
def LeaveD (P : Program) (fn : Func) (out : POut) (S' : PS) (F : Nat → PV) : List DefP → Option Value → PS → Prop
  | [], none, S1 => ∃ r, out = .ret r ∧ bodyQ P fn (.ret r) S' .ret F S1
  | [], some c, S1 => out = .panic c ∧ bodyQ P fn (.panic c) S' (.panic [{ v := c, recovered := false }]) F S1
  | .mark :: D, u, S1 => LeaveD P fn out S' F D u S1
  | .call g caps :: D, u, S1 => (∃ f, P.funcs[g]? = some f ∧ (f.name == "runtime.NumGoroutine") = false ∧ f.body.isSome = true) ∧ ∃ S2, EvD P g caps S1 u S2 ∧ LeaveD P fn out S' F D none S2
def bodyD (P : Program) (fn : Func) (out : POut) (S' : PS) (e : Exit) (F : Nat → PV) (S1 : PS) (D : List DefP) : Prop :=
  ∃ u, ((u = none ∧ (e = .normal ∨ e = .ret)) ∨ ∃ c, u = some c ∧ e = .panic [{ v := c, recovered := false }]) ∧ LeaveD P fn out S' F D u S1
theorem leaves_ok {P : Program} {fn : Func} {out : POut} {S0 S' : PS} {F : Nat → PV} {K0 : Kx} {w0 : World} {a : Act} (hI0 : Inv K0 S0 w0) (hS : S'.boxes.length = S0.boxes.length) (hT : S0.toks.length ≤ S'.toks.length)
    (hent : ∀ (g : Nat) (f : Func), P.funcs[g]? = some f → (f.name == "runtime.NumGoroutine") = false → f.body.isSome = true → ∀ args w, (callFunc g args).run P w = .ok (.enter g args) w) :
    ∀ (D : List DefP) (u : Option Value) (S1 : PS) (K1 : Kx) (w1 : World) (ds : List Deferred), Step K0 K1 w0 w1 → Inv K1 S1 w1 → FrameRep K1 w1 fn.ntmps F a → DefReps w0.heap.size K1 w1 D ds → LeaveD P fn out S' F D u S1 →
      LeavesInM Fence.wide 6 P fn a.tmps (fun e w' => ∃ K', Step K0 K' w0 w' ∧ Inv K' S' w' ∧ OutRep K' w' out e) ds (modeU u) w1
  | [], none, S1, K1, w1, ds, hs, hI, hF, hD, h => by
    obtain rfl : ds = [] := hD
    obtain ⟨r, rfl, h5, h6, _, ps, h8, rfl, h9⟩ := h
    have hcut := hI.cut (n := S'.boxes.length) (m := S'.toks.length) h5
    rw [h6] at hcut
    obtain ⟨v, h10, h11⟩ := run_results hI hF h8
    exact ⟨v, h10, _, step_cut hI0 hs (by omega) hT, hcut, v, rfl, Rep.cut _ _ h9 h11⟩
  | [], some c, S1, K1, w1, ds, hs, hI, hF, hD, h => by
    obtain rfl : ds = [] := hD
    obtain ⟨rfl, h5, h6, _⟩ := h
    have hcut := hI.cut (n := S'.boxes.length) (m := S'.toks.length) h5
    rw [h6] at hcut
    exact ⟨_, step_cut hI0 hs (by omega) hT, hcut, rfl⟩
  | .mark :: D, u, S1, K1, w1, ds, hs, hI, hF, hD, h => by
    obtain ⟨k, r, rfl, hm, hne, hD⟩ := hD
    refine ⟨by cases u <;> simp [modeU], .inl ⟨k, _, rfl, run_takeDeferred hm.2.1, ?_⟩⟩
    exact leaves_ok hI0 hS hT hent D u S1 K1 _ r (hs.putO hm.2.1 rfl rfl hm.1) (hI.putO hm.2.1 rfl rfl) (hF.putO hm.2.1 rfl rfl) (hD.putO hm.2.1 rfl rfl hne) h
  | .call g caps :: D, u, S1, K1, w1, ds, hs, hI, hF, hD, h => by
    obtain ⟨cs, r, rfl, hc, hD⟩ := hD
    obtain ⟨⟨f, hf1, hf2, hf3⟩, S2, hE, h⟩ := h
    refine ⟨by cases u <;> simp [modeU], .inr ⟨by simp [Fence.wide], .func g, cs.toArray, g, cs.toArray, rfl, ?_, fun _ _ => trivial, ?_⟩⟩
    · simp only [invoke, Array.empty_append]
      exact hent g f hf1 hf2 hf3 _ _
    · refine callsDIn_mono (hE (6 - 1) K1 w1 cs hI hc) ?_
      rintro e u' w' ⟨⟨v, rfl⟩, hset, K2, hs2, hI2⟩
      show LeavesInM _ _ _ _ _ _ r (settle u') w'
      rw [hset]
      exact leaves_ok hI0 hS hT hent D none S2 K2 w' r (hs.trans hI0 hs2) hI2 ⟨hF.size, fun t => Rep.step hs2 _ _ (hF.rep t)⟩ (hD.step hs2) h
theorem ev_bodyD {P : Program} {f : Nat} {fn : Func} {c : Code} {args : List PV} {S S' : PS} {out : POut} (hent : ∀ (g : Nat) (f : Func), P.funcs[g]? = some f → (f.name == "runtime.NumGoroutine") = false → f.body.isSome = true → ∀ args w, (callFunc g args).run P w = .ok (.enter g args) w)
    (hf : P.funcs[f]? = some fn) (hb : fn.body = some c) (hn : args.length ≤ fn.ntmps) (hS : S'.boxes.length = S.boxes.length) (hT : S.toks.length ≤ S'.toks.length) (h : PD P fn.ntmps c (bodyD P fn out S') (args0 args) S []) : EvC P f args S out S' := by
  intro K w vs hI hA
  have hl := hA.length
  refine (callsIn_wide (n := 6)).1 (callsIn_of_wp_marks hf hb trivial (wpIn_wide.2 (wp_mono (h.run w.heap.size K w { tmps := vs.toArray ++ Array.replicate (fn.ntmps - vs.toArray.size) undef, defers := [] } (Nat.le_refl _) hI ⟨by simp; omega, fun t => ?_⟩ rfl) ?_)) rfl)
  · have := args0_rep args vs (fn.ntmps - vs.toArray.size) t hA
    rw [Array.getD_eq_getD_getElem?]
    rw [List.getD_eq_getElem?_getD] at this
    rw [← Array.getElem?_toList]
    simpa using this
  · intro e a' w' hq
    obtain ⟨K', F', S1, D', h1, h2, h3, h4, u, hu, hL⟩ := hq
    have key := leaves_ok (out := out) hI hS hT hent D' u S1 K' w' a'.defers h1 h2 h3 h4 hL
    rcases hu with ⟨rfl, rfl | rfl⟩ | ⟨c, rfl, rfl⟩
    · exact key
    · exact key
    · exact key
end Go.Proofs.YtiledamgmppcmaaGreatDoor
/-! PlW -/
namespace Go.Proofs.YtiledamgmppcmaaGreatDoor
open Go.RowKit

/-- Operations that call nothing. -/
def simpleO : Op → Bool
  | .move _ | .assign _ | .alloc _ | .load .. | .store .. | .extract .. | .typeAssert .. => true
  | _ => false
theorem run_v {P : Program} {m : Sem Value} {w w' : World} {x : Next} (h : (do pure (.value (← m)) : Sem Next).run P w = .ok x w') : ∃ v, x = .value v := by
  rw [Sem.run_bind] at h
  cases e : m.run P w with
  | ok v w1 => rw [e] at h; simp only [Result.andThen_ok, Sem.run_pure] at h; cases h; exact ⟨_, rfl⟩
  | _ => rw [e] at h; simp [Result.andThen] at h
theorem run_u {P : Program} {m : Sem Unit} {w w' : World} {x : Next} (h : (do m; pure .skip : Sem Next).run P w = .ok x w') : x = .skip := by
  rw [Sem.run_bind] at h
  cases e : m.run P w with
  | ok v w1 => rw [e] at h; simp only [Result.andThen_ok, Sem.run_pure] at h; cases h; rfl
  | _ => rw [e] at h; simp [Result.andThen] at h
theorem simple_run {P : Program} {o : Oper} {ρ : Operand → Value} {w w' : World} {x : Next} (hs : simpleO o.op = true) (h : (execOp ρ o).run P w = .ok x w') : (∃ v, x = .value v) ∨ x = .skip := by
  unfold execOp at h
  unfold simpleO at hs
  split at hs
  · rename_i e; rw [e] at h; simp only [Sem.run_pure] at h; cases h; exact .inl ⟨_, rfl⟩
  · rename_i e; rw [e] at h; simp only [Sem.run_pure] at h; cases h; exact .inl ⟨_, rfl⟩
  · rename_i e; rw [e] at h; exact .inl (run_v h)
  · rename_i e; rw [e] at h; exact .inl (run_v h)
  · rename_i e; rw [e] at h; exact .inr (run_u h)
  · rename_i e; rw [e] at h; exact .inl (run_v h)
  · rename_i e; rw [e] at h; exact .inl (run_v h)
  · cases hs
theorem simple_step {P : Program} {ops : Array Oper} {o : Oper} {i n : Nat} {l : List Nat} {Q : Exit → Act → List Frame → World → Prop} {a : Act} {cs : List Frame} {w : World} (ho : ops[i]? = some o) (hs : simpleO o.op = true) (hw : Region.wanted o (yielded ops a.tmps) = true)
    (h : o.wpIn (fen none) 0 P a w (fun a' w' => wpOpsSIn Fence.wide n P ops Q l a' cs w') (fun e a' w' => Q e a' cs w')) : wpOpsSIn Fence.wide n P ops Q (i :: l) a cs w := by
  simp only [wpOpsSIn, ho, hw, if_true]
  refine ⟨fun _ _ => trivial, ?_⟩
  have h := h.2
  rw [show o.semAt (fen none).round a.eval = execOp a.eval o from rfl] at h
  cases e : (execOp a.eval o).run P w with
  | ok x w' =>
    rw [e] at h
    rcases simple_run hs e with ⟨v, rfl⟩ | rfl
    · exact h
    · exact h
  | halt s w' =>
    rw [e] at h
    cases s <;> first | exact h | exact h.elim
theorem walkS {P : Program} {N n : Nat} {ops : Array Oper} {Q : Exit → Act → List Frame → World → Prop} {cs : List Frame} {rest : List Oper} {F : Nat → PV} {S : PS} {res : WRes} (h : Walk P N ops rest F S res) :
    ∀ (k : Nat), (∀ j, rest[j]? = ops[k + j]?) → rest.all (fun o => simpleO o.op) = true → ∀ (K0 K : Kx) (S0 : PS) (w0 w : World) (a : Act), Inv K0 S0 w0 → Step K0 K w0 w → Inv K S w → FrameRep K w N F a → endQ N K0 w0 a.defers (fun e a' w' => Q e a' cs w') res → wpOpsSIn Fence.wide n P ops Q (List.range' k rest.length) a cs w := by
  induction h with
  | nil F S => intro k _ _ K0 K S0 w0 w a _ hs hI hF hE; exact hE K a w hs hI hF rfl
  | @skip o rest F S res hg _ ih =>
    intro k hk hsim K0 K S0 w0 w a hI0 hs hI hF hE
    have hw := guardP_ok hg (K := K) (w := w) (a := a) (fun _ _ d _ _ => hF.rep d)
    have ho : ops[k]? = some o := by have := hk 0; simpa using this.symm
    simp only [List.all_cons, Bool.and_eq_true] at hsim
    simp only [List.length_cons, List.range'_succ, wpOpsSIn, ho]
    refine ⟨fun _ _ => trivial, ?_⟩
    rw [if_neg (by rw [hw]; simp)]
    exact ih (k + 1) (fun j => by have := hk (j + 1); simp only [List.getElem?_cons_succ] at this; rw [this]; congr 1; omega) hsim.2 K0 K S0 w0 w _ hI0 hs hI (hF.put (Step.refl K w) (by simp [Rep])) (by rw [put_defers]; exact hE)
  | @op o rest F S r S' res hg hop _ ih =>
    intro k hk hsim K0 K S0 w0 w a hI0 hs hI hF hE
    have hw := guardP_ok hg (K := K) (w := w) (a := a) (fun _ _ d _ _ => hF.rep d)
    have ho : ops[k]? = some o := by have := hk 0; simpa using this.symm
    simp only [List.all_cons, Bool.and_eq_true] at hsim
    simp only [List.length_cons, List.range'_succ]
    refine simple_step ho hsim.1 hw (hop none 0 K w a _ _ hI (fun x _ => hF.ev x) fun v w' K' h1 h2 h3 => ?_)
    exact ih (k + 1) (fun j => by have := hk (j + 1); simp only [List.getElem?_cons_succ] at this; rw [this]; congr 1; omega) hsim.2 K0 K' S0 w0 w' _ hI0 (hs.trans hI0 h1) h2 (hF.put h1 h3) (by rw [put_defers]; exact hE)
  | @panic o rest F S c S' hg hop =>
    intro k hk hsim K0 K S0 w0 w a hI0 hs hI hF hE
    have hw := guardP_ok hg (K := K) (w := w) (a := a) (fun _ _ d _ _ => hF.rep d)
    have ho : ops[k]? = some o := by have := hk 0; simpa using this.symm
    simp only [List.all_cons, Bool.and_eq_true] at hsim
    simp only [List.length_cons, List.range'_succ]
    exact simple_step ho hsim.1 hw (hop none 0 K w a _ _ hI (fun x _ => hF.ev x) fun w' K' h1 h2 => hE K' a w' (hs.trans hI0 h1) h2 hF.size rfl)

/-- What recover hands over. -/
def recV : Option Value → PV
  | none => .d (.v .nilIface)
  | some c => .d (.v c)
theorem evd_body {P : Program} {g id : Nat} {fn : Func} {o0 : Oper} {tl : List Oper} {rest : Code} {caps : List PV} {S S' : PS} {u : Option Value} (hf : P.funcs[g]? = some fn) (hb : fn.body = some (.seq (.region id (o0 :: tl).toArray false) rest)) (hg : o0.guard = none)
    (hrec : ∀ (ρ : Operand → Value) (w : World), (execOp ρ o0).run P w = .ok .recover w) (hsim : tl.all (fun o => simpleO o.op) = true) (hn : caps.length ≤ fn.ntmps) (hu1 : ∀ c, u = some c → c.oneCell' = true) (hS : S'.boxes.length = S.boxes.length) (hT : S.toks.length ≤ S'.toks.length)
    (h : WK P fn.ntmps (o0 :: tl).toArray tl (putP fn.ntmps o0.dst (recV u) (args0 caps)) S (resQ (thenQ (PW P fn.ntmps rest (bodyQ P fn (.ret (.tup [])) S')) (fun _ _ _ => False)))) : EvD P g caps S u S' := by
  intro n K w vs hI hA
  have hl := hA.length
  refine callsDIn_of_wpSIn hf hb trivial fun c₀ cs hu => wpSIn_seq (wpSIn_region ?_)
  obtain ⟨a, ha⟩ : ∃ a : Act, a = { tmps := vs.toArray ++ Array.replicate (fn.ntmps - vs.toArray.size) undef, defers := [] } := ⟨_, rfl⟩
  rw [← ha]
  have hF : FrameRep K w fn.ntmps (args0 caps) a := by
    refine ⟨by rw [ha]; simp; omega, fun t => ?_⟩
    have := args0_rep caps vs (fn.ntmps - vs.toArray.size) t hA
    rw [ha, Array.getD_eq_getD_getElem?]
    rw [List.getD_eq_getElem?_getD] at this
    rw [← Array.getElem?_toList]
    simpa using this
  have hd0 : a.defers = [] := by rw [ha]
  have hw0 : ∀ Y, Region.wanted o0 Y = true := fun Y => by unfold Region.wanted; rw [hg]
  have hsz : List.range (o0 :: tl).toArray.size = 0 :: List.range' 1 tl.length := by simp [List.range_eq_range', List.range'_succ]
  rw [hsz]
  obtain ⟨res, hwalk, hres⟩ := h.ex
  have key : ∀ (v : Value) (u' : FrameMode), Rep K w (recV u) v → settle u' = .returning → wpOpsSIn Fence.wide n P (o0 :: tl).toArray (Exit.thenS (rest.wpSIn Fence.wide n P (bodyPostS P fn c₀ cs fun e u' w' => (∃ v, e = .returned v) ∧ settle u' = .returning ∧ ∃ K', Step K K' w w' ∧ Inv K' S' w'))
      (bodyPostS P fn c₀ cs fun e u' w' => (∃ v, e = .returned v) ∧ settle u' = .returning ∧ ∃ K', Step K K' w w' ∧ Inv K' S' w')) (List.range' 1 tl.length) (a.put o0.dst v) ({ c₀ with mode := u' } :: cs) w := by
    intro v u' hv hset
    refine walkS hwalk 1 (fun j => by simp [Nat.add_comm 1 j]) hsim K K S w w _ hI (Step.refl K w) hI (hF.put (Step.refl K w) hv) ?_
    cases res with
    | panic c S1 => exact hres.elim
    | done F1 S1 =>
      intro K1 a1 w1 h1 h2 h3 h4
      refine wpSIn_of_wpIn rfl (wpIn_wide.2 ?_)
      have hpw : PW P fn.ntmps rest (bodyQ P fn (.ret (.tup [])) S') F1 S1 := hres
      refine wp_mono (hpw.run0 K1 w1 a1 h2 h3) fun e a2 w2 hq => ?_
      obtain ⟨K2, F2, S2, s1, s2, s3, s4, h5, h6, he, ps, h8, h9, _⟩ := hq
      have hdf : a2.defers = [] := by rw [s4, h4, put_defers, hd0]
      have hcut := s2.cut (n := S'.boxes.length) (m := S'.toks.length) h5
      rw [h6] at hcut
      obtain ⟨v2, h10, h11⟩ := run_results s2 s3 h8
      have hpost : ∃ u'', ({ c₀ with mode := u' } :: cs : List Frame) = { c₀ with mode := u'' } :: cs ∧ ∃ v, (results fn a2.tmps).run P w2 = .ok v w2 ∧ ((∃ v', Ending.returned v = .returned v') ∧ settle u'' = .returning ∧ ∃ K', Step K K' w w2 ∧ Inv K' S' w2) :=
        ⟨u', rfl, v2, h10, ⟨_, rfl⟩, hset, _, step_cut hI (h1.trans hI s1) (by omega) hT, hcut⟩
      rcases he with rfl | rfl
      · exact ⟨hdf, hpost⟩
      · exact ⟨hdf, hpost⟩
  simp only [wpOpsSIn, List.getElem?_toArray, List.getElem?_cons_zero, hw0, if_true, hrec]
  refine ⟨fun _ _ => trivial, ?_⟩
  cases u with
  | none =>
    have e : recoverD (c₀ :: cs) = none := by simp [recoverD, hu, modeU]
    rw [e]
    have h1 := key .nilIface .returning (by simp [recV, Rep, RepD, Value.oneCell']) rfl
    have e2 : ({ c₀ with mode := .returning } : Frame) = c₀ := by cases c₀; simp only [modeU] at hu; subst hu; rfl
    rw [e2] at h1
    exact h1
  | some c =>
    have e : recoverD (c₀ :: cs) = some (c, { c₀ with mode := .panicking [{ v := c, recovered := true }] } :: cs) := by simp [recoverD, hu, modeU]
    rw [e]
    exact key c _ (by simp [recV, Rep, RepD, hu1 c rfl]) rfl

/-- A type assertion. -/
def valP (z : Value) : PV := match z with | .agg cs => .agg (cs.toList.map fun v => .d (.v v)) | z => .d (.v z)
theorem valP_rep {K : Kx} {w : World} {z : Value} (h : z.cells.all (·.oneCell') = true) : Rep K w (valP z) z := by
  unfold valP
  split
  · rename_i cs
    simp only [Rep]
    refine ⟨cs.toList, by simp, repL_vals _ fun v hv => ?_⟩
    have : (Value.agg cs).cells = cs := rfl
    rw [this, ← Array.all_toList] at h
    exact List.all_eq_true.1 h v hv
  · rename_i hne
    simp only [Rep, RepD]
    refine ⟨trivial, ?_⟩
    cases z with
    | agg cs => exact absurd rfl (hne cs)
    | _ => first | rfl | (simp [Value.cells, Value.oneCell'] at h ⊢)
theorem op_assert {P : Program} {o : Oper} {F : Nat → PV} {S : PS} {x : Operand} {v z : Value} {b : Bool} {t T : TypeId} (ho : o.op = .typeAssert x t T true) (hx : evP F x = .d (.v v)) (hrun : ∀ w, (Instr.typeAssert v t T true).run P w = .ok (.tuple #[z, .bool b]) w) (hz : z.cells.all (·.oneCell') = true) :
    OpS P o F S (.tup [valP z, .d (.v (.bool b))]) S :=
  OpS.pure fun K w ρ hI h => by
    have h1 := h x (by simp [ho, Op.operands])
    rw [hx] at h1
    have h1 := rep_v h1
    refine ⟨.tuple #[z, .bool b], ?_, ?_⟩
    · simp only [execOp, ho, h1, Sem.run_bind, hrun, Result.andThen_ok, Sem.run_pure]
    · simp only [Rep]
      exact ⟨[z, .bool b], rfl, by simp only [RepL]; exact ⟨z, _, rfl, valP_rep hz, .bool b, _, rfl, by simp [Rep, RepD, Value.oneCell'], rfl⟩⟩
end Go.Proofs.YtiledamgmppcmaaGreatDoor
/-! KtA -/
namespace Go.Proofs.YtiledamgmppcmaaGreatDoor
open Go.RowKit
def andZ (k : IntKind) (a b : Int) : Int := k.wrap (BitVec.ofInt k.bits a &&& BitVec.ofInt k.bits b).toNat
section
variable {P : Program} {o : Oper} {F : Nat → PV} {S : PS} {ty yt : TypeId} {x y : Operand}
theorem opb_and {k : IntKind} {a b : Int} (ho : o.op = .binOp .and ty x y yt) (hx : evP F x = .d (.v (.int k a))) (hy : evP F y = .d (.v (.int k b))) : OpS P o F S (.d (.v (.int k (andZ k a b)))) S :=
  ops_bin ho hx hy rfl fun w => by simp [eqG_int, binOp, Op.intBits, andZ]
theorem made_one {z : Value} {zs : Array Value} (h : zs.toList = [z]) (n : Nat) : (madeCells zs n).toList = List.replicate n z := by
  have hz : zs = #[z] := by apply Array.ext'; simpa using h
  subst hz
  apply List.ext_getElem
  · simp [madeCells]
  · intro j h1 h2
    simp [madeCells, Nat.mod_one]
theorem repL_rep {K : Kx} {w : World} {z : Value} (hz : z.oneCell' = true) : ∀ n : Nat, RepL K w (List.replicate n (.d (.v z))) (List.replicate n z)
  | 0 => by simp [RepL]
  | n + 1 => by
    simp only [List.replicate_succ, RepL]
    exact ⟨_, _, rfl, rep_mk hz, repL_rep hz n⟩
/-- A new slice of zeros that is only read. -/
theorem ops_makeD {t : TypeId} {I : TyI} {n : Nat} {z : Value} {kx ky : IntKind} (ho : o.op = .makeSlice t x y) (hI : TyI.of P t = some I) (hk : I.kind = 2) (hek : I.ek = 1) (hez : I.ez = [z]) (hz1 : z.oneCell' = true) (hx : evP F x = .d (.v (.int kx n))) (hy : evP F y = .d (.v (.int ky n)))
    (hn : I.eb * n ≤ 281474976710656) (h63 : n ≤ 9223372036854775807) : OpS P o F S (.d (.sl 1 (List.replicate n [.v z]))) S :=
  OpS.val fun K w ρ hInv h => by
    have h1 := h x (by simp [ho, Op.operands])
    have h2 := h y (by simp [ho, Op.operands])
    rw [hx] at h1
    rw [hy] at h2
    have h1 := rep_v h1
    have h2 := rep_v h2
    obtain ⟨i, d, zz, hi, hu, hz, _, hzz, hd⟩ := TyI.inv hI
    rw [hk] at hd; simp at hd
    obtain ⟨rfl, ie, hie, ze, hze, hzs, hek2, heb, hez2⟩ := hd
    have hsz : ie.size = 1 := by rw [← hek]; first | exact hek2 | exact hek2.symm
    have hcl : ze.cells.toList = [z] := by rw [← hez]; first | exact hez2.1 | exact hez2.1.symm
    have hrun := run_make (P := P) w t I.elem ie ze hu hie hze kx ky n n (by omega) (Int.le_refl _) (by have hb : ie.bytes = I.eb := (by first | exact heb | exact heb.symm); rw [hb]; omega) (by omega)
    simp only [Int.toNat_natCast, hsz, Nat.mul_one] at hrun
    obtain ⟨g1, g2⟩ := hInv.below (w' := w.alloc (.cells (madeCells ze.cells n) I.elem)) ((Below.refl _ _).alloc (Nat.le_refl _) _)
    refine ⟨_, _, K, by simp only [execOp, ho, h1, h2, Sem.run_bind, hrun]; rfl, g2, g1, ?_⟩
    simp only [Rep, RepD, List.length_replicate]
    refine ⟨_, n, rfl, Nat.le_refl _, h63, fun _ => ⟨w.heap.size, 0, rfl, goodNew hInv (by simp) _, rowsD_iff.2 ⟨fun e he => by rw [List.eq_of_mem_replicate he]; rfl, ?_⟩⟩⟩
    have e1 : (List.replicate n [DV.v z]).flatten = List.replicate n (.v z) := by simp
    rw [e1]
    refine cellsD_of rangeNew ?_
    rw [made_one hcl n, List.map_replicate]
    exact repL_rep hz1 n
end
section
variable {N : Nat} {ops : Array Oper} {rest : List Oper} {o : Oper} {F : Nat → PV} {S : PS} {q : WRes → Prop}
theorem wand {k : IntKind} {a b : Int} {ty yt : TypeId} {x y : Operand} (hg : guardP ops F o = some true) (ho : o.op = .binOp .and ty x y yt) (hx : evP F x = .d (.v (.int k a))) (hy : evP F y = .d (.v (.int k b)))
    (kk : WK Tryz.prog N ops rest (putP N o.dst (.d (.v (.int k (andZ k a b)))) F) S q) : WK Tryz.prog N ops (o :: rest) F S q := wk_op hg (opb_and ho hx hy) kk
theorem wivc {t : TypeId} {x y : Operand} {l : List PV} {kd : IntKind} {j : Int} {p : PV} (hg : guardP ops F o = some true) (ho : o.op = .index t x y) (hk : (tyOks t && Nat.beq (tyi t).kind 3 && tyOks (tyi t).elem && !(tyi (tyi t).elem).isRow) = true) (hx : evP F x = .agg l) (hy : evP F y = .d (.v (.int kd j))) (h0 : 0 ≤ j) (h1 : j < (tyi t).len)
    (hp : l[j.toNat * (tyi (tyi t).elem).size]? = some p) (kk : WK Tryz.prog N ops rest (putP N o.dst p F) S q) : WK Tryz.prog N ops (o :: rest) F S q := by
  simp only [Bool.and_eq_true, Bool.not_eq_true'] at hk
  exact wk_op hg (ops_indexV ho (tyok t hk.1.1.1) (Nat.eq_of_beq_eq_true hk.1.1.2) (tyok _ hk.1.2) hx hy h0 h1 (.inr ⟨hk.2, hp⟩)) kk
theorem wmake {t : TypeId} {x y : Operand} {n : Nat} {kx ky : IntKind} (z : Value) (hg : guardP ops F o = some true) (ho : o.op = .makeSlice t x y) (hk : (tyOks t && Nat.beq (tyi t).kind 2 && Nat.beq (tyi t).ek 1) = true) (hez : (tyi t).ez = [z]) (hz1 : z.oneCell' = true) (hx : evP F x = .d (.v (.int kx n))) (hy : evP F y = .d (.v (.int ky n)))
    (hn : (tyi t).eb * n ≤ 281474976710656) (h63 : n ≤ 9223372036854775807) (kk : WK Tryz.prog N ops rest (putP N o.dst (.d (.sl 1 (List.replicate n [.v z]))) F) S q) : WK Tryz.prog N ops (o :: rest) F S q := by
  simp only [Bool.and_eq_true] at hk
  exact wk_op hg (ops_makeD ho (tyok t hk.1.1) (Nat.eq_of_beq_eq_true hk.1.2) (Nat.eq_of_beq_eq_true hk.2) hez hz1 hx hy hn h63) kk
end
/-- A list of small numbers. -/
@[reducible] def bytesP (l : List UInt8) : PV := .d (.sl 1 (l.map fun b => [.v (.int .u8 b.toNat)]))
def nextX (l : List UInt8) (a : Nat) : Int := if a < l.length ∧ a < 18 then ((l.getD a 0).toNat : Int) else 0
theorem nextX_lt (l : List UInt8) (a : Nat) : 0 ≤ nextX l a ∧ nextX l a < 256 := by
  unfold nextX
  split
  · have := (l.getD a 0).toNat_lt
    omega
  · omega
theorem bytes_get {l : List UInt8} {a : Nat} (h : a < l.length) : (l.map fun b => [DV.v (.int .u8 b.toNat)])[((a : Nat) : Int).toNat]? = some [.v (.int .u8 ((l.getD a 0).toNat : Int))] := by
  simp [h, List.getD_eq_getElem?_getD]
@[reducible] def mkS (l : List UInt8) (a : Nat) : PS := ⟨[[bytesP l, intP a]], []⟩
theorem next_do (l : List UInt8) (a : Nat) (ha : a ≤ 1000000) : Does 108 [.ptr 0 0] (mkS l a) (.ret (intP (nextX l a))) (mkS l (a + 1)) := by
  refine does_body Tryz.func108 rfl rfl (Nat.le_of_ble_eq_true rfl) rfl (Nat.le_refl _) ?_
  repeat' (first | refine q1 ?_ | refine q2 ?_ | refine wk_nil ?_ | refine wa_nil ?_ | refine pw_seq ?_ | refine pw_region ?_ | refine pw_block ?_ | refine pw_skip ?_ | refine pw_ret ?_ | refine pw_exit ?_ | refine q3 ?_ | refine q4 ?_ | refine q5 ?_ | refine q6 ?_ | refine q7 ?_ | refine q8 ?_ | refine q17 (fun h => ?_) (fun h => ?_) | refine q18 (fun h => ?_) (fun h => ?_) | refine q9 ?_ | refine q10 ?_ | refine q11 ?_ | refine q12 ?_ | refine q13 ?_ | refine q14 ?_ | refine q15 ?_ | refine q16 (fun h => ?_) (fun h => ?_) | fail)
  · rw [show nextX l a = 0 from if_neg (by simp at h; omega)]
  · rename_i g
    rw [show nextX l a = 0 from if_neg (by simp at g h; omega)]
  · rename_i g
    have hc : a < l.length ∧ a < 18 := by simp at g h; omega
    refine wixn [.v (.int .u8 ((l.getD a 0).toNat : Int))] rfl rfl rfl rfl rfl (by rw [show ((a : Int) + 1 - 1).toNat = ((a : Nat) : Int).toNat from by omega]; exact bytes_get hc.1) (by omega) ?_
    have hlt := (l.getD a 0).toNat_lt
    repeat' (first | refine q1 ?_ | refine q2 ?_ | refine wk_nil ?_ | refine wa_nil ?_ | refine pw_seq ?_ | refine pw_region ?_ | refine pw_block ?_ | refine pw_skip ?_ | refine pw_ret ?_ | refine pw_exit ?_ | refine q3 ?_ | refine q4 ?_ | refine q5 ?_ | refine q6 ?_ | refine q7 ?_ | refine q8 ?_ | refine q17 (fun h => ?_) (fun h => ?_) | refine q18 (fun h => ?_) (fun h => ?_) | refine q9 ?_ | refine q10 ?_ | refine q11 ?_ | refine q12 ?_ | refine q13 ?_ | refine q14 ?_ | refine q15 ?_ | refine q16 (fun h => ?_) (fun h => ?_) | fail)
    refine wan rfl rfl ⟨by show (-9223372036854775808 : Int) ≤ _; omega, by show _ ≤ (9223372036854775807 : Int); omega⟩ ?_
    repeat' (first | refine q1 ?_ | refine q2 ?_ | refine wk_nil ?_ | refine wa_nil ?_ | refine pw_seq ?_ | refine pw_region ?_ | refine pw_block ?_ | refine pw_skip ?_ | refine pw_ret ?_ | refine pw_exit ?_ | refine q3 ?_ | refine q4 ?_ | refine q5 ?_ | refine q6 ?_ | refine q7 ?_ | refine q8 ?_ | refine q17 (fun h => ?_) (fun h => ?_) | refine q18 (fun h => ?_) (fun h => ?_) | refine q9 ?_ | refine q10 ?_ | refine q11 ?_ | refine q12 ?_ | refine q13 ?_ | refine q14 ?_ | refine q15 ?_ | refine q16 (fun h => ?_) (fun h => ?_) | fail)
    rw [show nextX l a = ((l.getD a 0).toNat : Int) from if_pos hc]
    rfl
end Go.Proofs.YtiledamgmppcmaaGreatDoor
/-! KtB -/
namespace Go.Proofs.YtiledamgmppcmaaGreatDoor
open Go.RowKit
def sXyz : ByteArray := ⟨#[120, 121, 122]⟩
def numB (want n : Int) : Bool := decide (want = 1) || (decide (want = 0) && decide (andZ .i64 n 128 = 0))
def numT : List Int := [0, 1, 2, 3, 5, 9999, 7, 1]
def leafX (num : Bool) (n : Int) : Ex :=
  if num = false then .mk (3 + n / 16 % 2) 0 ⟨#[]⟩ [] else if 1 < n % 16 then .mk 2 0 (sXyz.extract (n / 16 % 3).toNat (n / 16 % 3 + 1).toNat) [] else .mk 1 (numT.getD (n / 16 % 8).toNat 0) ⟨#[]⟩ []
def kindsX (num : Bool) (n : Int) : Int × List Int :=
  if num = false then (if n % 16 < 10 then (11 + n / 16 % 6, [1, 1]) else if n % 16 < 11 then (6, [2]) else if n % 16 < 15 then (17 + n / 16 % 2, [2, 2]) else (19, [2, 2, 2]))
  else (if n % 16 < 7 then (5, [1]) else if n % 16 < 14 then (7 + n / 16 % 4, [1, 1]) else (19, [2, 1, 1]))
def listX (g : Int → Nat → Ex × Nat) : List Int → Nat → List Ex × Nat
  | [], a => ([], a)
  | t :: ts, a => ((g t a).1 :: (listX g ts (g t a).2).1, (listX g ts (g t a).2).2)
def freeT (want : Int) (ts : List Int) : List Int := if want = 0 then List.replicate ts.length 0 else ts
def oneX (l : List UInt8) : Nat → Int → Nat → Ex × Nat
  | 0, want, a => (leafX (numB want (nextX l a)) (nextX l a), a + 1)
  | f + 1, want, a => if nextX l a % 16 < 5 then (leafX (numB want (nextX l a)) (nextX l a), a + 1) else
      (.mk (kindsX (numB want (nextX l a)) (nextX l a)).1 0 ⟨#[]⟩ (listX (oneX l f) (freeT want (kindsX (numB want (nextX l a)) (nextX l a)).2) (a + 1)).1, (listX (oneX l f) (freeT want (kindsX (numB want (nextX l a)) (nextX l a)).2) (a + 1)).2)
theorem kinds_len (num : Bool) (n : Int) : 1 ≤ (kindsX num n).2.length ∧ (kindsX num n).2.length ≤ 3 := by
  unfold kindsX
  repeat' split
  all_goals simp
theorem free_len (want : Int) (ts : List Int) : (freeT want ts).length = ts.length := by unfold freeT; split <;> simp
theorem listX_le {g : Int → Nat → Ex × Nat} {b : Nat} (hg : ∀ t a, (g t a).2 ≤ a + b) : ∀ (ts : List Int) (a : Nat), (listX g ts a).2 ≤ a + ts.length * b
  | [], a => by simp [listX]
  | t :: ts, a => by
    have h1 := hg t a
    have h2 := listX_le hg ts (g t a).2
    simp only [listX, List.length_cons, Nat.succ_mul]
    omega
theorem oneX_le (l : List UInt8) : ∀ (f : Nat) (want : Int) (a : Nat), (oneX l f want a).2 ≤ a + 4 ^ f
  | 0, want, a => by simp [oneX]
  | f + 1, want, a => by
    have hp : 1 ≤ 4 ^ f := Nat.pos_of_ne_zero (by simp)
    rw [oneX]
    split
    · simp only [Nat.pow_succ]; omega
    · have h1 := listX_le (oneX_le l f) (freeT want (kindsX (numB want (nextX l a)) (nextX l a)).2) (a + 1)
      have h2 := kinds_len (numB want (nextX l a)) (nextX l a)
      rw [free_len] at h1
      have h3 : (kindsX (numB want (nextX l a)) (nextX l a)).2.length * 4 ^ f ≤ 3 * 4 ^ f := Nat.mul_le_mul_right _ h2.2
      simp only [Nat.pow_succ]; omega
theorem listX_take {g : Int → Nat → Ex × Nat} : ∀ {ts : List Int} {a i : Nat} {t : Int}, ts[i]? = some t → listX g (ts.take (i + 1)) a = ((listX g (ts.take i) a).1 ++ [(g t (listX g (ts.take i) a).2).1], (g t (listX g (ts.take i) a).2).2)
  | [], a, i, t, h => by simp at h
  | s :: ts, a, 0, t, h => by simp at h; subst h; simp [listX]
  | s :: ts, a, i + 1, t, h => by
    simp only [List.getElem?_cons_succ] at h
    have := listX_take (g := g) (a := (g s a).2) h
    simp only [List.take_succ_cons, listX, this, List.cons_append]
theorem listX_len {g : Int → Nat → Ex × Nat} : ∀ (ts : List Int) (a : Nat), (listX g ts a).1.length = ts.length
  | [], a => rfl
  | t :: ts, a => by simp [listX, listX_len ts]
theorem ints_get {l : List Int} {i : Nat} {x : Int} (h : l[i]? = some x) : (l.map fun n => [DV.v (.int .i64 n)])[((i : Nat) : Int).toNat]? = some [.v (.int .i64 x)] := by simp [h]
theorem exDs_append (l r : List Ex) : exDs (l ++ r) = exDs l ++ exDs r := by simp [exDs_map]
set_option maxHeartbeats 1000000 in
theorem list_do (l : List UInt8) (g : Int → Nat → Ex × Nat) (b : Nat) (deep : Int) (hd : 0 ≤ deep ∧ deep ≤ 100) (hg : ∀ t a, (g t a).2 ≤ a + b) (hone : ∀ (t : Int) (a : Nat), a + b ≤ 1000000 → Does 66 [.ptr 0 0, intP t, intP (deep + 1)] (mkS l a) (.ret (exP (g t a).1)) (mkS l (g t a).2)) (ts : List Int) (hts : ts.length ≤ 3) (a : Nat) (ha : a + 3 * b ≤ 1000000) :
    Does 147 [.ptr 0 0, intP deep, intsP ts] (mkS l a) (.ret (.d (.sl 4 (exDs (listX g ts a).1)))) (mkS l (listX g ts a).2) := by
  have raw : Does 147 [.ptr 0 0, intP deep, intsP ts] (mkS l a) (.ret (.hd 0 ts.length)) ⟨[[bytesP l, intP (listX g ts a).2]], [⟨ts.length, 4, exDs (listX g ts a).1, 24⟩]⟩ := by
    refine does_body Tryz.func147 rfl rfl (Nat.le_of_ble_eq_true rfl) rfl (by simp) ?_
    repeat' (first | refine q1 ?_ | refine q2 ?_ | refine wk_nil ?_ | refine wa_nil ?_ | refine pw_seq ?_ | refine pw_region ?_ | refine pw_block ?_ | refine pw_skip ?_ | refine pw_ret ?_ | refine pw_exit ?_ | refine q3 ?_ | refine q4 ?_ | refine q5 ?_ | refine q6 ?_ | refine q7 ?_ | refine q8 ?_ | refine q17 (fun h => ?_) (fun h => ?_) | refine q18 (fun h => ?_) (fun h => ?_) | refine q9 ?_ | refine q10 ?_ | refine q11 ?_ | refine q12 ?_ | refine q13 ?_ | refine q14 ?_ | refine q15 ?_ | refine q16 (fun h => ?_) (fun h => ?_) | fail)
    refine pw_mint 7 4 24 rfl ?_
    refine pw_loop (ι := Nat) (ok := fun i => i ≤ ts.length) (L := fun i => [(0, .ptr 0 0), (1, intP deep), (7, .hd 0 i), (10, intsP ts), (11, intP (ts.map fun n => [DV.v (.int .i64 n)]).length), (12, intP i)]) (Sx := fun i => ⟨[[bytesP l, intP (listX g (ts.take i) a).2]], [⟨i, 4, exDs (listX g (ts.take i) a).1, 24⟩]⟩) (μ := fun i => ts.length - i) 0 (Nat.zero_le _) (by repeat (first | exact frle_nil | refine frle_cons rfl ?_)) rfl ?_
    rintro i hi
    repeat' (first | refine q1 ?_ | refine q2 ?_ | refine wk_nil ?_ | refine wa_nil ?_ | refine pw_seq ?_ | refine pw_region ?_ | refine pw_block ?_ | refine pw_skip ?_ | refine pw_ret ?_ | refine pw_exit ?_ | refine q3 ?_ | refine q4 ?_ | refine q5 ?_ | refine q6 ?_ | refine q7 ?_ | refine q8 ?_ | refine q17 (fun h => ?_) (fun h => ?_) | refine q18 (fun h => ?_) (fun h => ?_) | refine q9 ?_ | refine q10 ?_ | refine q11 ?_ | refine q12 ?_ | refine q13 ?_ | refine q14 ?_ | refine q15 ?_ | refine q16 (fun h => ?_) (fun h => ?_) | fail)
    · have hlt : i < ts.length := by simpa using h
      obtain ⟨t, ht⟩ : ∃ t, ts[i]? = some t := ⟨_, List.getElem?_eq_getElem hlt⟩
      have hstep := listX_take (g := g) (a := a) ht
      have hle := listX_le hg (ts.take i) a
      rw [List.length_take, Nat.min_eq_left hi] at hle
      have hib : i * b ≤ 2 * b := Nat.mul_le_mul_right _ (by omega)
      have hll := listX_len (g := g) (ts.take i) a
      rw [List.length_take, Nat.min_eq_left hi] at hll
      refine wix _ rfl rfl rfl rfl rfl (ints_get ht) (by omega) ?_
      repeat' (first | refine q1 ?_ | refine q2 ?_ | refine wk_nil ?_ | refine wa_nil ?_ | refine pw_seq ?_ | refine pw_region ?_ | refine pw_block ?_ | refine pw_skip ?_ | refine pw_ret ?_ | refine pw_exit ?_ | refine q3 ?_ | refine q4 ?_ | refine q5 ?_ | refine q6 ?_ | refine q7 ?_ | refine q8 ?_ | refine q17 (fun h => ?_) (fun h => ?_) | refine q18 (fun h => ?_) (fun h => ?_) | refine q9 ?_ | refine q10 ?_ | refine q11 ?_ | refine q12 ?_ | refine q13 ?_ | refine q14 ?_ | refine q15 ?_ | refine q16 (fun h => ?_) (fun h => ?_) | fail)
      refine wcb (id := 0) (hone t _ (by omega)) rfl rfl rfl rfl rfl rfl rfl rfl (by repeat (first | exact coeL_nil | refine coeL_cons (coe_refl _) ?_)) rfl ?_
      generalize hx : g t (listX g (ts.take i) a).2 = x at hstep ⊢
      obtain ⟨x, a2⟩ := x
      repeat' (first | refine q1 ?_ | refine q2 ?_ | refine wk_nil ?_ | refine wa_nil ?_ | refine pw_seq ?_ | refine pw_region ?_ | refine pw_block ?_ | refine pw_skip ?_ | refine pw_ret ?_ | refine pw_exit ?_ | refine q3 ?_ | refine q4 ?_ | refine q5 ?_ | refine q6 ?_ | refine q7 ?_ | refine q8 ?_ | refine q17 (fun h => ?_) (fun h => ?_) | refine q18 (fun h => ?_) (fun h => ?_) | refine q9 ?_ | refine q10 ?_ | refine q11 ?_ | refine q12 ?_ | refine q13 ?_ | refine q14 ?_ | refine q15 ?_ | refine q16 (fun h => ?_) (fun h => ?_) | fail)
      refine wapp (news := [[.v (.int .i64 x.op), .v (.int .i64 x.n), .v (.string x.name), .sl 4 (exDs x.args)]]) (S' := ⟨[[bytesP l, intP a2]], [⟨i + 1, 4, exDs (listX g (ts.take i) a).1 ++ [[.v (.int .i64 x.op), .v (.int .i64 x.n), .v (.string x.name), .sl 4 (exDs x.args)]], 24⟩]⟩) rfl rfl rfl rfl rfl rfl ?_ ?_ rfl ?_
      · rw [exDs_length, hll]; show (i + 1) * 56 ≤ _; omega
      · rw [exDs_length, hll]; show i + 1 ≤ _; omega
      repeat' (first | refine q1 ?_ | refine q2 ?_ | refine wk_nil ?_ | refine wa_nil ?_ | refine pw_seq ?_ | refine pw_region ?_ | refine pw_block ?_ | refine pw_skip ?_ | refine pw_ret ?_ | refine pw_exit ?_ | refine q3 ?_ | refine q4 ?_ | refine q5 ?_ | refine q6 ?_ | refine q7 ?_ | refine q8 ?_ | refine q17 (fun h => ?_) (fun h => ?_) | refine q18 (fun h => ?_) (fun h => ?_) | refine q9 ?_ | refine q10 ?_ | refine q11 ?_ | refine q12 ?_ | refine q13 ?_ | refine q14 ?_ | refine q15 ?_ | refine q16 (fun h => ?_) (fun h => ?_) | fail)
      refine ⟨i + 1, by omega, by omega, (by repeat (first | exact frle_nil | refine frle_cons rfl ?_)), ?_⟩
      rw [hstep, exDs_append]
      simp [exDs]
      cases x; rfl
    · obtain rfl : i = ts.length := by have : ¬ (i < ts.length) := by simpa using h
                                       omega
      rw [List.take_length]
      exact fin rfl rfl (.inr rfl) rfl rfl rfl rfl
  exact does_cut (S' := ⟨[[bytesP l, intP (listX g ts a).2]], [⟨ts.length, 4, exDs (listX g ts a).1, 24⟩]⟩) 1 0 (does_coe raw (coe_s (toS_hd rfl))) (Nat.le_refl _) (Nat.le_refl _) rfl rfl
set_option maxHeartbeats 1000000 in
theorem sub_do (l : List UInt8) (g : Int → Nat → Ex × Nat) (b : Nat) (deep op : Int) (want : Int) (hd : 0 ≤ deep ∧ deep ≤ 100) (hg : ∀ t a, (g t a).2 ≤ a + b) (hone : ∀ (t : Int) (a : Nat), a + b ≤ 1000000 → Does 66 [.ptr 0 0, intP t, intP (deep + 1)] (mkS l a) (.ret (exP (g t a).1)) (mkS l (g t a).2)) (ts : List Int) (hts : ts.length ≤ 3) (a : Nat) (ha : a + 3 * b ≤ 1000000) :
    Does 109 [.ptr 0 0, boolP (decide (want = 0)), intP deep, intP op, intsP ts] (mkS l a) (.ret (exP (.mk op 0 ⟨#[]⟩ (listX g (freeT want ts) a).1))) (mkS l (listX g (freeT want ts) a).2) := by
  have hL := list_do l g b deep hd hg hone (freeT want ts) (by rw [free_len]; exact hts) a ha
  unfold freeT at hL ⊢
  refine does_body Tryz.func109 rfl rfl (Nat.le_of_ble_eq_true rfl) rfl (Nat.le_refl _) ?_
  repeat' (first | refine q1 ?_ | refine q2 ?_ | refine wk_nil ?_ | refine wa_nil ?_ | refine pw_seq ?_ | refine pw_region ?_ | refine pw_block ?_ | refine pw_skip ?_ | refine pw_ret ?_ | refine pw_exit ?_ | refine q3 ?_ | refine q4 ?_ | refine q5 ?_ | refine q6 ?_ | refine q7 ?_ | refine q8 ?_ | refine q17 (fun h => ?_) (fun h => ?_) | refine q18 (fun h => ?_) (fun h => ?_) | refine q9 ?_ | refine q10 ?_ | refine q11 ?_ | refine q12 ?_ | refine q13 ?_ | refine q14 ?_ | refine q15 ?_ | refine q16 (fun h => ?_) (fun h => ?_) | fail)
  · have hw : want = 0 := by simpa using h
    rw [if_pos hw] at hL ⊢
    rw [show intsP (List.replicate ts.length 0) = .d (.sl 1 (List.replicate ts.length [.v (.int .i64 0)])) from by simp] at hL
    refine wmake (n := (ts.map fun n => [DV.v (.int .i64 n)]).length) (kx := .i64) (ky := .i64) (.int .i64 0) rfl rfl rfl rfl rfl rfl rfl (by rw [List.length_map]; show 8 * _ ≤ _; omega) (by rw [List.length_map]; omega) ?_
    rw [List.length_map]
    repeat' (first | refine q1 ?_ | refine q2 ?_ | refine wk_nil ?_ | refine wa_nil ?_ | refine pw_seq ?_ | refine pw_region ?_ | refine pw_block ?_ | refine pw_skip ?_ | refine pw_ret ?_ | refine pw_exit ?_ | refine q3 ?_ | refine q4 ?_ | refine q5 ?_ | refine q6 ?_ | refine q7 ?_ | refine q8 ?_ | refine q17 (fun h => ?_) (fun h => ?_) | refine q18 (fun h => ?_) (fun h => ?_) | refine q9 ?_ | refine q10 ?_ | refine q11 ?_ | refine q12 ?_ | refine q13 ?_ | refine q14 ?_ | refine q15 ?_ | refine q16 (fun h => ?_) (fun h => ?_) | fail)
    refine wcb (id := 0) hL rfl rfl rfl rfl rfl rfl rfl rfl (by repeat (first | exact coeL_nil | refine coeL_cons (coe_refl _) ?_)) rfl ?_
    repeat' (first | refine q1 ?_ | refine q2 ?_ | refine wk_nil ?_ | refine wa_nil ?_ | refine pw_seq ?_ | refine pw_region ?_ | refine pw_block ?_ | refine pw_skip ?_ | refine pw_ret ?_ | refine pw_exit ?_ | refine q3 ?_ | refine q4 ?_ | refine q5 ?_ | refine q6 ?_ | refine q7 ?_ | refine q8 ?_ | refine q17 (fun h => ?_) (fun h => ?_) | refine q18 (fun h => ?_) (fun h => ?_) | refine q9 ?_ | refine q10 ?_ | refine q11 ?_ | refine q12 ?_ | refine q13 ?_ | refine q14 ?_ | refine q15 ?_ | refine q16 (fun h => ?_) (fun h => ?_) | fail)
    rfl
  · have hw : want ≠ 0 := by simpa using h
    rw [if_neg hw] at hL ⊢
    refine wcb (id := 0) hL rfl rfl rfl rfl rfl rfl rfl rfl (by repeat (first | exact coeL_nil | refine coeL_cons (coe_refl _) ?_)) rfl ?_
    repeat' (first | refine q1 ?_ | refine q2 ?_ | refine wk_nil ?_ | refine wa_nil ?_ | refine pw_seq ?_ | refine pw_region ?_ | refine pw_block ?_ | refine pw_skip ?_ | refine pw_ret ?_ | refine pw_exit ?_ | refine q3 ?_ | refine q4 ?_ | refine q5 ?_ | refine q6 ?_ | refine q7 ?_ | refine q8 ?_ | refine q17 (fun h => ?_) (fun h => ?_) | refine q18 (fun h => ?_) (fun h => ?_) | refine q9 ?_ | refine q10 ?_ | refine q11 ?_ | refine q12 ?_ | refine q13 ?_ | refine q14 ?_ | refine q15 ?_ | refine q16 (fun h => ?_) (fun h => ?_) | fail)
    rfl
end Go.Proofs.YtiledamgmppcmaaGreatDoor
/-! KtC -/
namespace Go.Proofs.YtiledamgmppcmaaGreatDoor
open Go.RowKit
theorem tab8 {n : Int} (h0 : 0 ≤ n) (h1 : n < 256) : (([intP 0, intP 1, intP 2, intP 3, intP 5, intP 9999, intP 7, intP 1] : List PV)[(n / 16 % 8).toNat * 1]?) = some (intP (numT.getD (n / 16 % 8).toNat 0)) := by
  have : n / 16 % 8 = 0 ∨ n / 16 % 8 = 1 ∨ n / 16 % 8 = 2 ∨ n / 16 % 8 = 3 ∨ n / 16 % 8 = 4 ∨ n / 16 % 8 = 5 ∨ n / 16 % 8 = 6 ∨ n / 16 % 8 = 7 := by omega
  rcases this with h | h | h | h | h | h | h | h <;> rw [h] <;> rfl
set_option maxHeartbeats 2000000 in
theorem one_leaf (l : List UInt8) (want deep : Int) (a : Nat) (ha : a ≤ 1000000) (hd : 0 ≤ deep ∧ deep ≤ 100) (hl : 10 ≤ deep ∨ nextX l a % 16 < 5) : Does 66 [.ptr 0 0, intP want, intP deep] (mkS l a) (.ret (exP (leafX (numB want (nextX l a)) (nextX l a)))) (mkS l (a + 1)) := by
  have hn := nextX_lt l a
  have raw : Does 66 [.ptr 0 0, intP want, intP deep] (mkS l a) (.ret (.agg [intP (leafX (numB want (nextX l a)) (nextX l a)).op, intP (leafX (numB want (nextX l a)) (nextX l a)).n, strP (leafX (numB want (nextX l a)) (nextX l a)).name, .d (.v (.slice none 0 0))])) (mkS l (a + 1)) := by
    refine does_body Tryz.func66 rfl rfl (Nat.le_of_ble_eq_true rfl) rfl (Nat.le_refl _) ?_
    repeat' (first | refine q1 ?_ | refine q2 ?_ | refine wk_nil ?_ | refine wa_nil ?_ | refine pw_seq ?_ | refine pw_region ?_ | refine pw_block ?_ | refine pw_skip ?_ | refine pw_ret ?_ | refine pw_exit ?_ | refine q3 ?_ | refine q4 ?_ | refine q5 ?_ | refine q6 ?_ | refine q7 ?_ | refine q8 ?_ | refine q17 (fun h => ?_) (fun h => ?_) | refine q18 (fun h => ?_) (fun h => ?_) | refine q9 ?_ | refine q10 ?_ | refine q11 ?_ | refine q12 ?_ | refine q13 ?_ | refine q14 ?_ | refine q15 ?_ | refine q16 (fun h => ?_) (fun h => ?_) | fail)
    refine wcb (id := 0) (next_do l a ha) rfl rfl rfl rfl rfl rfl rfl rfl (by repeat (first | exact coeL_nil | refine coeL_cons (coe_refl _) ?_)) rfl ?_
    generalize nextX l a = n at *
    refine wst rfl rfl trivial ?_
    refine wk_nil ?_
    refine pw_seq ?_
    refine pw_mid (ι := Unit) (fun _ => True) (fun _ => [(0, .ptr 0 0), (1, intP want), (2, intP deep), (6, .ptr 1 0), (7, intP n), (8, boolP (numB want n))]) (fun _ => ⟨[[bytesP l, intP ((a + 1 : Nat) : Int)], [intP 0, intP 0, strP ⟨#[]⟩, .d (.v (.slice none 0 0))]], []⟩) ?_ (fun _ _ => ?_)
    · refine pw_region ?_
      refine wst rfl rfl trivial ?_
      refine wst rfl rfl trivial ?_
      refine wst rfl rfl trivial ?_
      refine wk_ask rfl rfl rfl ⟨rfl⟩ (fun h => ?_) (fun h => ?_)
      · repeat refine wk_skip rfl ?_
        refine wst rfl rfl trivial ?_
        refine wst rfl rfl trivial ?_
        refine wk_nil ?_
        refine ⟨(), trivial, ?_, rfl⟩
        have e : numB want n = true := by unfold numB; rw [h]; rfl
        rw [e]
        exact (by repeat (first | exact frle_nil | refine frle_cons rfl ?_))
      · refine wst rfl rfl trivial ?_
        refine wst rfl rfl trivial ?_
        refine wst rfl rfl trivial ?_
        refine wk_ask rfl rfl rfl ⟨rfl⟩ (fun h2 => ?_) (fun h2 => ?_)
        · refine wst rfl rfl trivial ?_
          refine wand rfl rfl rfl rfl ?_
          refine wst rfl rfl trivial ?_
          refine wst rfl rfl trivial ?_
          refine wst rfl rfl trivial ?_
          refine wst rfl rfl trivial ?_
          refine wk_nil ?_
          refine ⟨(), trivial, ?_, rfl⟩
          have e : numB want n = decide (andZ .i64 n 128 = 0) := by unfold numB; rw [h, h2]; rfl
          rw [e]
          exact (by repeat (first | exact frle_nil | refine frle_cons rfl ?_))
        · repeat refine wk_skip rfl ?_
          refine wst rfl rfl trivial ?_
          refine wst rfl rfl trivial ?_
          refine wst rfl rfl trivial ?_
          refine wk_nil ?_
          refine ⟨(), trivial, ?_, rfl⟩
          have e : numB want n = false := by unfold numB; rw [h, h2]; rfl
          rw [e]
          exact (by repeat (first | exact frle_nil | refine frle_cons rfl ?_))
    generalize numB want n = b
    refine pw_seq ?_
    refine pw_seq ?_
    refine pw_mid (ι := Unit) (fun _ => True) (fun _ => [(0, .ptr 0 0), (1, intP want), (2, intP deep), (6, .ptr 1 0), (7, intP n), (8, boolP b), (29, boolP true)]) (fun _ => ⟨[[bytesP l, intP ((a + 1 : Nat) : Int)], [intP 0, intP 0, strP ⟨#[]⟩, .d (.v (.slice none 0 0))]], []⟩) ?_ (fun _ _ => ?_)
    · refine pw_region ?_
      refine wst rfl rfl trivial ?_
      refine wst rfl rfl trivial ?_
      refine wst rfl rfl trivial ?_
      refine wk_ask rfl rfl rfl ⟨rfl⟩ (fun h => ?_) (fun h => ?_)
      · repeat refine wk_skip rfl ?_
        refine wst rfl rfl trivial ?_
        refine wk_nil ?_
        exact ⟨(), trivial, (by repeat (first | exact frle_nil | refine frle_cons rfl ?_)), rfl⟩
      · refine wst rfl rfl trivial ?_
        refine wst rfl rfl ⟨by omega, by omega⟩ ?_
        refine wst rfl rfl trivial ?_
        refine wst rfl rfl trivial ?_
        refine wk_nil ?_
        refine ⟨(), trivial, ?_, rfl⟩
        have e : decide (n % 16 < 5) = true := by simp at h ⊢; omega
        exact frle_cons rfl (frle_cons rfl (frle_cons rfl (frle_cons rfl (frle_cons rfl (frle_cons rfl (frle_cons (show PV.d (.v (.bool (decide (n % 16 < 5)))) = _ by rw [e]) frle_nil))))))
    cases b
    · repeat' (first | refine q1 ?_ | refine q2 ?_ | refine wk_nil ?_ | refine wa_nil ?_ | refine pw_seq ?_ | refine pw_region ?_ | refine pw_block ?_ | refine pw_skip ?_ | refine pw_ret ?_ | refine pw_exit ?_ | refine q3 ?_ | refine q4 ?_ | refine q5 ?_ | refine q6 ?_ | refine q7 ?_ | refine q8 ?_ | refine q17 (fun h => ?_) (fun h => ?_) | refine q18 (fun h => ?_) (fun h => ?_) | refine q9 ?_ | refine q10 ?_ | refine q11 ?_ | refine q12 ?_ | refine q13 ?_ | refine q14 ?_ | refine q15 ?_ | refine q16 (fun h => ?_) (fun h => ?_) | fail)
      rw [show leafX false n = .mk (3 + n / 16 % 2) 0 ⟨#[]⟩ [] from rfl]
      rfl
    · repeat' (first | refine q1 ?_ | refine q2 ?_ | refine wk_nil ?_ | refine wa_nil ?_ | refine pw_seq ?_ | refine pw_region ?_ | refine pw_block ?_ | refine pw_skip ?_ | refine pw_ret ?_ | refine pw_exit ?_ | refine q3 ?_ | refine q4 ?_ | refine q5 ?_ | refine q6 ?_ | refine q7 ?_ | refine q8 ?_ | refine q17 (fun h => ?_) (fun h => ?_) | refine q18 (fun h => ?_) (fun h => ?_) | refine q9 ?_ | refine q10 ?_ | refine q11 ?_ | refine q12 ?_ | refine q13 ?_ | refine q14 ?_ | refine q15 ?_ | refine q16 (fun h => ?_) (fun h => ?_) | fail)
      · have e : leafX true n = .mk 2 0 (sXyz.extract (n / 16 % 3).toNat (n / 16 % 3 + 1).toNat) [] := by unfold leafX; rw [if_neg (by simp), if_pos (by simpa using h)]
        refine wst rfl rfl ⟨by omega, by omega, by show _ ≤ (3 : Int); omega⟩ ?_
        repeat' (first | refine q1 ?_ | refine q2 ?_ | refine wk_nil ?_ | refine wa_nil ?_ | refine pw_seq ?_ | refine pw_region ?_ | refine pw_block ?_ | refine pw_skip ?_ | refine pw_ret ?_ | refine pw_exit ?_ | refine q3 ?_ | refine q4 ?_ | refine q5 ?_ | refine q6 ?_ | refine q7 ?_ | refine q8 ?_ | refine q17 (fun h => ?_) (fun h => ?_) | refine q18 (fun h => ?_) (fun h => ?_) | refine q9 ?_ | refine q10 ?_ | refine q11 ?_ | refine q12 ?_ | refine q13 ?_ | refine q14 ?_ | refine q15 ?_ | refine q16 (fun h => ?_) (fun h => ?_) | fail)
        rw [e]
        rfl
      · have e : leafX true n = .mk 1 (numT.getD (n / 16 % 8).toNat 0) ⟨#[]⟩ [] := by unfold leafX; rw [if_neg (by simp), if_neg (by simpa using h)]
        refine wivc rfl rfl rfl rfl rfl (by omega) (by show _ < 8; omega) (tab8 hn.1 hn.2) ?_
        repeat' (first | refine q1 ?_ | refine q2 ?_ | refine wk_nil ?_ | refine wa_nil ?_ | refine pw_seq ?_ | refine pw_region ?_ | refine pw_block ?_ | refine pw_skip ?_ | refine pw_ret ?_ | refine pw_exit ?_ | refine q3 ?_ | refine q4 ?_ | refine q5 ?_ | refine q6 ?_ | refine q7 ?_ | refine q8 ?_ | refine q17 (fun h => ?_) (fun h => ?_) | refine q18 (fun h => ?_) (fun h => ?_) | refine q9 ?_ | refine q10 ?_ | refine q11 ?_ | refine q12 ?_ | refine q13 ?_ | refine q14 ?_ | refine q15 ?_ | refine q16 (fun h => ?_) (fun h => ?_) | fail)
        rw [e]
        rfl
  exact does_coe raw (coe_aggs (coeL_cons (coe_refl _) (coeL_cons (coe_refl _) (coeL_cons (coe_refl _) (coeL_cons (by
    have e : exDs (leafX (numB want (nextX l a)) (nextX l a)).args = [] := by
      unfold leafX
      split
      · rfl
      · split <;> rfl
    rw [e]; exact coe_nil) coeL_nil)))))
set_option maxHeartbeats 4000000 in
theorem one_do (l : List UInt8) : ∀ (f : Nat), f ≤ 9 → ∀ (want : Int) (a : Nat), a + 4 ^ f ≤ 1000000 → Does 66 [.ptr 0 0, intP want, intP (10 - f)] (mkS l a) (.ret (exP (oneX l f want a).1)) (mkS l (oneX l f want a).2)
  | 0, _, want, a, ha => by
    rw [oneX]
    exact one_leaf l want _ a (by simp at ha; omega) ⟨by simp, by simp⟩ (.inl (by simp))
  | f + 1, hf, want, a, ha => by
    have hp : 1 ≤ 4 ^ f := Nat.pos_of_ne_zero (by simp)
    have hpow : 4 ^ (f + 1) = 4 * 4 ^ f := by rw [Nat.pow_succ]; omega
    rw [oneX]
    by_cases hlf : nextX l a % 16 < 5
    · rw [if_pos hlf]
      exact one_leaf l want _ a (by omega) ⟨by omega, by omega⟩ (.inr hlf)
    rw [if_neg hlf]
    have hdeep : (10 : Int) - ((f + 1 : Nat) : Int) + 1 = 10 - (f : Nat) := by omega
    have hsub := fun (op : Int) (ts : List Int) (hts : ts.length ≤ 3) => sub_do l (oneX l f) (4 ^ f) (10 - ((f + 1 : Nat) : Int)) op want ⟨by omega, by omega⟩ (oneX_le l f) (fun t a' h' => by rw [hdeep]; exact one_do l f (by omega) t a' h') ts hts (a + 1) (by omega)
    have hn := nextX_lt l a
    have hnx := next_do l a (by omega)
    generalize hdp : (10 : Int) - ((f + 1 : Nat) : Int) = deep at *
    have hd : 0 ≤ deep ∧ deep < 10 := by omega
    refine does_body Tryz.func66 rfl rfl (Nat.le_of_ble_eq_true rfl) rfl (Nat.le_refl _) ?_
    repeat' (first | refine q1 ?_ | refine q2 ?_ | refine wk_nil ?_ | refine wa_nil ?_ | refine pw_seq ?_ | refine pw_region ?_ | refine pw_block ?_ | refine pw_skip ?_ | refine pw_ret ?_ | refine pw_exit ?_ | refine q3 ?_ | refine q4 ?_ | refine q5 ?_ | refine q6 ?_ | refine q7 ?_ | refine q8 ?_ | refine q17 (fun h => ?_) (fun h => ?_) | refine q18 (fun h => ?_) (fun h => ?_) | refine q9 ?_ | refine q10 ?_ | refine q11 ?_ | refine q12 ?_ | refine q13 ?_ | refine q14 ?_ | refine q15 ?_ | refine q16 (fun h => ?_) (fun h => ?_) | fail)
    refine wcb (id := 0) hnx rfl rfl rfl rfl rfl rfl rfl rfl (by repeat (first | exact coeL_nil | refine coeL_cons (coe_refl _) ?_)) rfl ?_
    generalize nextX l a = n at *
    refine wst rfl rfl trivial ?_
    refine wk_nil ?_
    refine pw_seq ?_
    refine pw_mid (ι := Unit) (fun _ => True) (fun _ => [(0, .ptr 0 0), (1, intP want), (2, intP deep), (6, .ptr 1 0), (7, intP n), (8, boolP (numB want n))]) (fun _ => ⟨[[bytesP l, intP ((a + 1 : Nat) : Int)], [intP 0, intP 0, strP ⟨#[]⟩, .d (.v (.slice none 0 0))]], []⟩) ?_ (fun _ _ => ?_)
    · refine pw_region ?_
      refine wst rfl rfl trivial ?_
      refine wst rfl rfl trivial ?_
      refine wst rfl rfl trivial ?_
      refine wk_ask rfl rfl rfl ⟨rfl⟩ (fun h => ?_) (fun h => ?_)
      · repeat refine wk_skip rfl ?_
        refine wst rfl rfl trivial ?_
        refine wst rfl rfl trivial ?_
        refine wk_nil ?_
        refine ⟨(), trivial, ?_, rfl⟩
        have e : numB want n = true := by unfold numB; rw [h]; rfl
        rw [e]
        exact (by repeat (first | exact frle_nil | refine frle_cons rfl ?_))
      · refine wst rfl rfl trivial ?_
        refine wst rfl rfl trivial ?_
        refine wst rfl rfl trivial ?_
        refine wk_ask rfl rfl rfl ⟨rfl⟩ (fun h2 => ?_) (fun h2 => ?_)
        · refine wst rfl rfl trivial ?_
          refine wand rfl rfl rfl rfl ?_
          refine wst rfl rfl trivial ?_
          refine wst rfl rfl trivial ?_
          refine wst rfl rfl trivial ?_
          refine wst rfl rfl trivial ?_
          refine wk_nil ?_
          refine ⟨(), trivial, ?_, rfl⟩
          have e : numB want n = decide (andZ .i64 n 128 = 0) := by unfold numB; rw [h, h2]; rfl
          rw [e]
          exact (by repeat (first | exact frle_nil | refine frle_cons rfl ?_))
        · repeat refine wk_skip rfl ?_
          refine wst rfl rfl trivial ?_
          refine wst rfl rfl trivial ?_
          refine wst rfl rfl trivial ?_
          refine wk_nil ?_
          refine ⟨(), trivial, ?_, rfl⟩
          have e : numB want n = false := by unfold numB; rw [h, h2]; rfl
          rw [e]
          exact (by repeat (first | exact frle_nil | refine frle_cons rfl ?_))
    generalize numB want n = b
    refine pw_seq ?_
    refine pw_seq ?_
    refine pw_mid (ι := Unit) (fun _ => True) (fun _ => [(0, .ptr 0 0), (1, intP want), (2, intP deep), (6, .ptr 1 0), (7, intP n), (8, boolP b), (29, boolP false)]) (fun _ => ⟨[[bytesP l, intP ((a + 1 : Nat) : Int)], [intP 0, intP 0, strP ⟨#[]⟩, .d (.v (.slice none 0 0))]], []⟩) ?_ (fun _ _ => ?_)
    · refine pw_region ?_
      refine wst rfl rfl trivial ?_
      refine wst rfl rfl trivial ?_
      refine wst rfl rfl trivial ?_
      refine wk_ask rfl rfl rfl ⟨rfl⟩ (fun h => ?_) (fun h => ?_)
      · exfalso; simp at h; omega
      · refine wst rfl rfl trivial ?_
        refine wst rfl rfl ⟨by omega, by omega⟩ ?_
        refine wst rfl rfl trivial ?_
        refine wst rfl rfl trivial ?_
        refine wk_nil ?_
        refine ⟨(), trivial, ?_, rfl⟩
        have e : decide (n % 16 < 5) = false := by simp; omega
        exact frle_cons rfl (frle_cons rfl (frle_cons rfl (frle_cons rfl (frle_cons rfl (frle_cons rfl (frle_cons (show PV.d (.v (.bool (decide (n % 16 < 5)))) = _ by rw [e]) frle_nil))))))
    cases b
    · repeat' (first | refine q1 ?_ | refine q2 ?_ | refine wk_nil ?_ | refine wa_nil ?_ | refine pw_seq ?_ | refine pw_region ?_ | refine pw_block ?_ | refine pw_skip ?_ | refine pw_ret ?_ | refine pw_exit ?_ | refine q3 ?_ | refine q4 ?_ | refine q5 ?_ | refine q6 ?_ | refine q7 ?_ | refine q8 ?_ | refine q17 (fun h => ?_) (fun h => ?_) | refine q18 (fun h => ?_) (fun h => ?_) | refine q9 ?_ | refine q10 ?_ | refine q11 ?_ | refine q12 ?_ | refine q13 ?_ | refine q14 ?_ | refine q15 ?_ | refine q16 (fun h => ?_) (fun h => ?_) | fail)
      · have e : kindsX false n = (11 + n / 16 % 6, [1, 1]) := by unfold kindsX; rw [if_pos rfl,  if_pos (by simpa using h)]
        rw [e]
        refine wcb (id := 0) (hsub (11 + n / 16 % 6) [1, 1] (by decide)) rfl rfl rfl rfl rfl rfl rfl rfl (by repeat (first | exact coeL_nil | refine coeL_cons (coe_refl _) ?_)) rfl ?_
        repeat' (first | refine q1 ?_ | refine q2 ?_ | refine wk_nil ?_ | refine wa_nil ?_ | refine pw_seq ?_ | refine pw_region ?_ | refine pw_block ?_ | refine pw_skip ?_ | refine pw_ret ?_ | refine pw_exit ?_ | refine q3 ?_ | refine q4 ?_ | refine q5 ?_ | refine q6 ?_ | refine q7 ?_ | refine q8 ?_ | refine q17 (fun h => ?_) (fun h => ?_) | refine q18 (fun h => ?_) (fun h => ?_) | refine q9 ?_ | refine q10 ?_ | refine q11 ?_ | refine q12 ?_ | refine q13 ?_ | refine q14 ?_ | refine q15 ?_ | refine q16 (fun h => ?_) (fun h => ?_) | fail)
        rfl
      · rename_i g1
        have e : kindsX false n = (6, [2]) := by unfold kindsX; rw [if_pos rfl, if_neg (by simpa using g1), if_pos (by simpa using h)]
        rw [e]
        refine wcb (id := 0) (hsub (6) [2] (by decide)) rfl rfl rfl rfl rfl rfl rfl rfl (by repeat (first | exact coeL_nil | refine coeL_cons (coe_refl _) ?_)) rfl ?_
        repeat' (first | refine q1 ?_ | refine q2 ?_ | refine wk_nil ?_ | refine wa_nil ?_ | refine pw_seq ?_ | refine pw_region ?_ | refine pw_block ?_ | refine pw_skip ?_ | refine pw_ret ?_ | refine pw_exit ?_ | refine q3 ?_ | refine q4 ?_ | refine q5 ?_ | refine q6 ?_ | refine q7 ?_ | refine q8 ?_ | refine q17 (fun h => ?_) (fun h => ?_) | refine q18 (fun h => ?_) (fun h => ?_) | refine q9 ?_ | refine q10 ?_ | refine q11 ?_ | refine q12 ?_ | refine q13 ?_ | refine q14 ?_ | refine q15 ?_ | refine q16 (fun h => ?_) (fun h => ?_) | fail)
        rfl
      · rename_i g1 g2
        have e : kindsX false n = (17 + n / 16 % 2, [2, 2]) := by unfold kindsX; rw [if_pos rfl, if_neg (by simpa using g1), if_neg (by simpa using g2), if_pos (by simpa using h)]
        rw [e]
        refine wcb (id := 0) (hsub (17 + n / 16 % 2) [2, 2] (by decide)) rfl rfl rfl rfl rfl rfl rfl rfl (by repeat (first | exact coeL_nil | refine coeL_cons (coe_refl _) ?_)) rfl ?_
        repeat' (first | refine q1 ?_ | refine q2 ?_ | refine wk_nil ?_ | refine wa_nil ?_ | refine pw_seq ?_ | refine pw_region ?_ | refine pw_block ?_ | refine pw_skip ?_ | refine pw_ret ?_ | refine pw_exit ?_ | refine q3 ?_ | refine q4 ?_ | refine q5 ?_ | refine q6 ?_ | refine q7 ?_ | refine q8 ?_ | refine q17 (fun h => ?_) (fun h => ?_) | refine q18 (fun h => ?_) (fun h => ?_) | refine q9 ?_ | refine q10 ?_ | refine q11 ?_ | refine q12 ?_ | refine q13 ?_ | refine q14 ?_ | refine q15 ?_ | refine q16 (fun h => ?_) (fun h => ?_) | fail)
        rfl
      · rename_i g1 g2
        have e : kindsX false n = (19, [2, 2, 2]) := by unfold kindsX; rw [if_pos rfl, if_neg (by simpa using g1), if_neg (by simpa using g2), if_neg (by simpa using h)]
        rw [e]
        refine wcb (id := 0) (hsub (19) [2, 2, 2] (by decide)) rfl rfl rfl rfl rfl rfl rfl rfl (by repeat (first | exact coeL_nil | refine coeL_cons (coe_refl _) ?_)) rfl ?_
        repeat' (first | refine q1 ?_ | refine q2 ?_ | refine wk_nil ?_ | refine wa_nil ?_ | refine pw_seq ?_ | refine pw_region ?_ | refine pw_block ?_ | refine pw_skip ?_ | refine pw_ret ?_ | refine pw_exit ?_ | refine q3 ?_ | refine q4 ?_ | refine q5 ?_ | refine q6 ?_ | refine q7 ?_ | refine q8 ?_ | refine q17 (fun h => ?_) (fun h => ?_) | refine q18 (fun h => ?_) (fun h => ?_) | refine q9 ?_ | refine q10 ?_ | refine q11 ?_ | refine q12 ?_ | refine q13 ?_ | refine q14 ?_ | refine q15 ?_ | refine q16 (fun h => ?_) (fun h => ?_) | fail)
        rfl
    · repeat' (first | refine q1 ?_ | refine q2 ?_ | refine wk_nil ?_ | refine wa_nil ?_ | refine pw_seq ?_ | refine pw_region ?_ | refine pw_block ?_ | refine pw_skip ?_ | refine pw_ret ?_ | refine pw_exit ?_ | refine q3 ?_ | refine q4 ?_ | refine q5 ?_ | refine q6 ?_ | refine q7 ?_ | refine q8 ?_ | refine q17 (fun h => ?_) (fun h => ?_) | refine q18 (fun h => ?_) (fun h => ?_) | refine q9 ?_ | refine q10 ?_ | refine q11 ?_ | refine q12 ?_ | refine q13 ?_ | refine q14 ?_ | refine q15 ?_ | refine q16 (fun h => ?_) (fun h => ?_) | fail)
      · have e : kindsX true n = (5, [1]) := by unfold kindsX; rw [if_neg (by simp),  if_pos (by simpa using h)]
        rw [e]
        refine wcb (id := 0) (hsub (5) [1] (by decide)) rfl rfl rfl rfl rfl rfl rfl rfl (by repeat (first | exact coeL_nil | refine coeL_cons (coe_refl _) ?_)) rfl ?_
        repeat' (first | refine q1 ?_ | refine q2 ?_ | refine wk_nil ?_ | refine wa_nil ?_ | refine pw_seq ?_ | refine pw_region ?_ | refine pw_block ?_ | refine pw_skip ?_ | refine pw_ret ?_ | refine pw_exit ?_ | refine q3 ?_ | refine q4 ?_ | refine q5 ?_ | refine q6 ?_ | refine q7 ?_ | refine q8 ?_ | refine q17 (fun h => ?_) (fun h => ?_) | refine q18 (fun h => ?_) (fun h => ?_) | refine q9 ?_ | refine q10 ?_ | refine q11 ?_ | refine q12 ?_ | refine q13 ?_ | refine q14 ?_ | refine q15 ?_ | refine q16 (fun h => ?_) (fun h => ?_) | fail)
        rfl
      · rename_i g1
        have e : kindsX true n = (7 + n / 16 % 4, [1, 1]) := by unfold kindsX; rw [if_neg (by simp), if_neg (by simpa using g1), if_pos (by simpa using h)]
        rw [e]
        refine wcb (id := 0) (hsub (7 + n / 16 % 4) [1, 1] (by decide)) rfl rfl rfl rfl rfl rfl rfl rfl (by repeat (first | exact coeL_nil | refine coeL_cons (coe_refl _) ?_)) rfl ?_
        repeat' (first | refine q1 ?_ | refine q2 ?_ | refine wk_nil ?_ | refine wa_nil ?_ | refine pw_seq ?_ | refine pw_region ?_ | refine pw_block ?_ | refine pw_skip ?_ | refine pw_ret ?_ | refine pw_exit ?_ | refine q3 ?_ | refine q4 ?_ | refine q5 ?_ | refine q6 ?_ | refine q7 ?_ | refine q8 ?_ | refine q17 (fun h => ?_) (fun h => ?_) | refine q18 (fun h => ?_) (fun h => ?_) | refine q9 ?_ | refine q10 ?_ | refine q11 ?_ | refine q12 ?_ | refine q13 ?_ | refine q14 ?_ | refine q15 ?_ | refine q16 (fun h => ?_) (fun h => ?_) | fail)
        rfl
      · rename_i g1
        have e : kindsX true n = (19, [2, 1, 1]) := by unfold kindsX; rw [if_neg (by simp), if_neg (by simpa using g1), if_neg (by simpa using h)]
        rw [e]
        refine wcb (id := 0) (hsub (19) [2, 1, 1] (by decide)) rfl rfl rfl rfl rfl rfl rfl rfl (by repeat (first | exact coeL_nil | refine coeL_cons (coe_refl _) ?_)) rfl ?_
        repeat' (first | refine q1 ?_ | refine q2 ?_ | refine wk_nil ?_ | refine wa_nil ?_ | refine pw_seq ?_ | refine pw_region ?_ | refine pw_block ?_ | refine pw_skip ?_ | refine pw_ret ?_ | refine pw_exit ?_ | refine q3 ?_ | refine q4 ?_ | refine q5 ?_ | refine q6 ?_ | refine q7 ?_ | refine q8 ?_ | refine q17 (fun h => ?_) (fun h => ?_) | refine q18 (fun h => ?_) (fun h => ?_) | refine q9 ?_ | refine q10 ?_ | refine q11 ?_ | refine q12 ?_ | refine q13 ?_ | refine q14 ?_ | refine q15 ?_ | refine q16 (fun h => ?_) (fun h => ?_) | fail)
        rfl
end Go.Proofs.YtiledamgmppcmaaGreatDoor
/-! RfD -/
namespace Go.Proofs.YtiledamgmppcmaaGreatDoor
open Go.RowKit
def varsL : List ByteArray := [⟨#[120]⟩, ⟨#[121]⟩, ⟨#[122]⟩]
theorem vars_do : Does 21 [] ⟨[], []⟩ (.ret (strsP varsL)) ⟨[], []⟩ := by
  refine does_body Tryz.func21 rfl rfl (Nat.le_of_ble_eq_true rfl) rfl (Nat.le_refl _) ?_
  repeat' (first | refine q1 ?_ | refine q2 ?_ | refine wk_nil ?_ | refine wa_nil ?_ | refine pw_seq ?_ | refine pw_region ?_ | refine pw_block ?_ | refine pw_skip ?_ | refine pw_ret ?_ | refine pw_exit ?_ | refine q3 ?_ | refine q4 ?_ | refine q5 ?_ | refine q6 ?_ | refine q7 ?_ | refine q8 ?_ | refine q17 (fun h => ?_) (fun h => ?_) | refine q18 (fun h => ?_) (fun h => ?_) | refine q9 ?_ | refine q10 ?_ | refine q11 ?_ | refine q12 ?_ | refine q13 ?_ | refine q14 ?_ | refine q15 ?_ | refine q16 (fun h => ?_) (fun h => ?_) | fail)
  rfl
def eqS : List ByteArray → List ByteArray → Bool
  | [], [] => true
  | x :: l, y :: l' => decide (x = y) && eqS l l'
  | _, _ => false
theorem eqS_length : ∀ {l l' : List ByteArray}, l.length ≠ l'.length → eqS l l' = false
  | [], [], h => absurd rfl h
  | _ :: _, [], _ => rfl
  | [], _ :: _, _ => rfl
  | x :: l, y :: l', h => by simp only [eqS, eqS_length (l := l) (l' := l') (by simpa using h), Bool.and_false]
theorem eqS_drop {l l' : List ByteArray} {i : Nat} {x y : ByteArray} (hx : l[i]? = some x) (hy : l'[i]? = some y) : eqS (l.drop i) (l'.drop i) = (decide (x = y) && eqS (l.drop (i + 1)) (l'.drop (i + 1))) := by
  obtain ⟨h1, rfl⟩ := List.getElem?_eq_some_iff.1 hx
  obtain ⟨h2, rfl⟩ := List.getElem?_eq_some_iff.1 hy
  rw [List.drop_eq_getElem_cons h1, List.drop_eq_getElem_cons h2]; rfl
theorem eqS_iff : ∀ {l l' : List ByteArray}, eqS l l' = true ↔ l = l'
  | [], [] => by simp [eqS]
  | _ :: _, [] => by simp [eqS]
  | [], _ :: _ => by simp [eqS]
  | x :: l, y :: l' => by simp [eqS, eqS_iff (l := l) (l' := l')]
set_option maxHeartbeats 400000 in
theorem texts_do (a b : List ByteArray) : Does 20 [strsP a, strsP b] ⟨[], []⟩ (.ret (boolP (eqS a b))) ⟨[], []⟩ := by
  refine does_bodyf Tryz.func20 rfl rfl (Nat.le_of_ble_eq_true rfl) rfl (Nat.le_refl _) ?_
  intro hf
  have hl : a.length ≤ 9223372036854775807 := by have := hf.1; simpa [fitP] using this
  repeat' (first | refine q1 ?_ | refine q2 ?_ | refine wk_nil ?_ | refine wa_nil ?_ | refine pw_seq ?_ | refine pw_region ?_ | refine pw_block ?_ | refine pw_skip ?_ | refine pw_ret ?_ | refine pw_exit ?_ | refine q3 ?_ | refine q4 ?_ | refine q5 ?_ | refine q6 ?_ | refine q7 ?_ | refine q8 ?_ | refine q17 (fun h => ?_) (fun h => ?_) | refine q18 (fun h => ?_) (fun h => ?_) | refine q9 ?_ | refine q10 ?_ | refine q11 ?_ | refine q12 ?_ | refine q13 ?_ | refine q14 ?_ | refine q15 ?_ | refine q16 (fun h => ?_) (fun h => ?_) | fail)
  · rw [eqS_length (by simp at h; omega)]
  have hab : a.length = b.length := by simp at h; omega
  refine pw_loop (ι := Nat) (ok := fun i => i ≤ a.length ∧ eqS a b = eqS (a.drop i) (b.drop i)) (L := fun i => [(0, strsP a), (1, strsP b), (5, intP i)]) (Sx := fun _ => ⟨[], []⟩) (μ := fun i => a.length - i) 0 ⟨Nat.zero_le _, rfl⟩ (by repeat (first | exact frle_nil | refine frle_cons rfl ?_)) rfl ?_
  rintro i ⟨hi, hm⟩
  repeat' (first | refine q1 ?_ | refine q2 ?_ | refine wk_nil ?_ | refine wa_nil ?_ | refine pw_seq ?_ | refine pw_region ?_ | refine pw_block ?_ | refine pw_skip ?_ | refine pw_ret ?_ | refine pw_exit ?_ | refine q3 ?_ | refine q4 ?_ | refine q5 ?_ | refine q6 ?_ | refine q7 ?_ | refine q8 ?_ | refine q17 (fun h => ?_) (fun h => ?_) | refine q18 (fun h => ?_) (fun h => ?_) | refine q9 ?_ | refine q10 ?_ | refine q11 ?_ | refine q12 ?_ | refine q13 ?_ | refine q14 ?_ | refine q15 ?_ | refine q16 (fun h => ?_) (fun h => ?_) | fail)
  · have hlt : i < a.length := by simpa using h
    obtain ⟨x, hx⟩ : ∃ x, a[i]? = some x := ⟨_, List.getElem?_eq_getElem hlt⟩
    obtain ⟨y, hy⟩ : ∃ y, b[i]? = some y := ⟨_, List.getElem?_eq_getElem (by omega)⟩
    refine wixn _ rfl rfl rfl rfl rfl (map_get hx) (by omega) ?_
    repeat' (first | refine q1 ?_ | refine q2 ?_ | refine wk_nil ?_ | refine wa_nil ?_ | refine pw_seq ?_ | refine pw_region ?_ | refine pw_block ?_ | refine pw_skip ?_ | refine pw_ret ?_ | refine pw_exit ?_ | refine q3 ?_ | refine q4 ?_ | refine q5 ?_ | refine q6 ?_ | refine q7 ?_ | refine q8 ?_ | refine q17 (fun h => ?_) (fun h => ?_) | refine q18 (fun h => ?_) (fun h => ?_) | refine q9 ?_ | refine q10 ?_ | refine q11 ?_ | refine q12 ?_ | refine q13 ?_ | refine q14 ?_ | refine q15 ?_ | refine q16 (fun h => ?_) (fun h => ?_) | fail)
    refine wixn _ rfl rfl rfl rfl rfl (map_get hy) (by omega) ?_
    repeat' (first | refine q1 ?_ | refine q2 ?_ | refine wk_nil ?_ | refine wa_nil ?_ | refine pw_seq ?_ | refine pw_region ?_ | refine pw_block ?_ | refine pw_skip ?_ | refine pw_ret ?_ | refine pw_exit ?_ | refine q3 ?_ | refine q4 ?_ | refine q5 ?_ | refine q6 ?_ | refine q7 ?_ | refine q8 ?_ | refine q17 (fun h => ?_) (fun h => ?_) | refine q18 (fun h => ?_) (fun h => ?_) | refine q9 ?_ | refine q10 ?_ | refine q11 ?_ | refine q12 ?_ | refine q13 ?_ | refine q14 ?_ | refine q15 ?_ | refine q16 (fun h => ?_) (fun h => ?_) | fail)
    · rw [hm, eqS_drop hx hy]; simp_all
    · exact ⟨i + 1, ⟨by omega, by rw [hm, eqS_drop hx hy]; simp_all⟩, by omega, (by repeat (first | exact frle_nil | refine frle_cons rfl ?_)), rfl⟩
  · rw [hm, List.drop_of_length_le (by simp at h; omega), List.drop_of_length_le (by simp at h; omega)]; rfl
end Go.Proofs.YtiledamgmppcmaaGreatDoor
/-! KtD -/
namespace Go.Proofs.YtiledamgmppcmaaGreatDoor
open Go.RowKit
/-- The expression that small numbers describe. -/
def makeX (l : List UInt8) (want : Int) : Ex := (oneX l 9 want 0).1
theorem make_do (l : List UInt8) (want : Int) : Does 28 [bytesP l, intP want] ⟨[], []⟩ (.ret (exP (makeX l want))) ⟨[], []⟩ := by
  refine does_body Tryz.func28 rfl rfl (Nat.le_of_ble_eq_true rfl) rfl (Nat.le_refl _) ?_
  repeat' (first | refine q1 ?_ | refine q2 ?_ | refine wk_nil ?_ | refine wa_nil ?_ | refine pw_seq ?_ | refine pw_region ?_ | refine pw_block ?_ | refine pw_skip ?_ | refine pw_ret ?_ | refine pw_exit ?_ | refine q3 ?_ | refine q4 ?_ | refine q5 ?_ | refine q6 ?_ | refine q7 ?_ | refine q8 ?_ | refine q17 (fun h => ?_) (fun h => ?_) | refine q18 (fun h => ?_) (fun h => ?_) | refine q9 ?_ | refine q10 ?_ | refine q11 ?_ | refine q12 ?_ | refine q13 ?_ | refine q14 ?_ | refine q15 ?_ | refine q16 (fun h => ?_) (fun h => ?_) | fail)
  refine wcb (id := 1) (one_do l 9 (by omega) want 0 (by decide)) rfl rfl rfl rfl rfl rfl rfl rfl (by repeat (first | exact coeL_nil | refine coeL_cons (coe_refl _) ?_)) rfl ?_
  repeat' (first | refine q1 ?_ | refine q2 ?_ | refine wk_nil ?_ | refine wa_nil ?_ | refine pw_seq ?_ | refine pw_region ?_ | refine pw_block ?_ | refine pw_skip ?_ | refine pw_ret ?_ | refine pw_exit ?_ | refine q3 ?_ | refine q4 ?_ | refine q5 ?_ | refine q6 ?_ | refine q7 ?_ | refine q8 ?_ | refine q17 (fun h => ?_) (fun h => ?_) | refine q18 (fun h => ?_) (fun h => ?_) | refine q9 ?_ | refine q10 ?_ | refine q11 ?_ | refine q12 ?_ | refine q13 ?_ | refine q14 ?_ | refine q15 ?_ | refine q16 (fun h => ?_) (fun h => ?_) | fail)
  rfl
end Go.Proofs.YtiledamgmppcmaaGreatDoor
/-! NdA -/
namespace Go.Proofs.YtiledamgmppcmaaGreatDoor
open Go.RowKit

attribute [local go_sem] Oper.semAt_some

/-- What a visit leaves: a state, blocks that stay. -/
def VisP {σ : Type} (J Jx : σ → (Nat → Prop) → World → Prop) (B : Nat → Prop) (r : σ × Bool) (W : World) (e : Ending) (W' : World) : Prop :=
  e = .returned (.bool r.2) ∧ (if r.2 = true then J r.1 B W' else Jx r.1 B W') ∧ ∀ b, B b → W'.heap[b]? = W.heap[b]?
/-- A value that reads as an expression, where these cells stand fast. -/
def ExG (G : Nat → Nat → Prop) (w : World) (v : Value) (x : Ex) : Prop := ∃ s, v = x.val s ∧ RepD G w (.sl 4 (exDs x.args)) s
/-- The rules that what is known of the world keeps. -/
structure Keeps {σ : Type} (J : σ → (Nat → Prop) → World → Prop) (G : Nat → Nat → Prop) (w : World) : Prop where
  cell : ∀ s B W, J s B W → ∀ b hi, G b hi → ∀ i < hi, W.cell? ⟨b, i, none⟩ = w.cell? ⟨b, i, none⟩
  lt : ∀ s B W, J s B W → ∀ b, B b → b < W.heap.size
  go : ∀ s B B' W W', J s B W → Below W.heap.size W W' → (∀ b, B' b → B b ∨ (W.heap.size ≤ b ∧ b < W'.heap.size)) → J s B' W'
theorem Keeps.below {σ : Type} {J : σ → (Nat → Prop) → World → Prop} {G : Nat → Nat → Prop} {w : World} (h : Keeps J G w) (s : σ) (B : Nat → Prop) (W W' : World) (hJ : J s B W) (hb : Below W.heap.size W W') : J s B W' := h.go s B B W W' hJ hb fun _ => .inl
theorem Keeps.add {σ : Type} {J : σ → (Nat → Prop) → World → Prop} {G : Nat → Nat → Prop} {w : World} (h : Keeps J G w) (s : σ) (B : Nat → Prop) (W W' : World) (b : Nat) (hJ : J s B W) (hb : Below W.heap.size W W') (h1 : W.heap.size ≤ b) (h2 : b < W'.heap.size) : J s (fun c => B c ∨ c = b) W' :=
  h.go s B _ W W' hJ hb fun c hc => hc.elim .inl fun e => .inr (by subst e; exact ⟨h1, h2⟩)
theorem Keeps.drop {σ : Type} {J : σ → (Nat → Prop) → World → Prop} {G : Nat → Nat → Prop} {w : World} (h : Keeps J G w) (s : σ) (B B' : Nat → Prop) (W : World) (hJ : J s B W) (hb : ∀ b, B' b → B b) : J s B' W := h.go s B B' W W hJ (Below.refl _ _) fun b hB => .inl (hb b hB)
/-- An operand in memory. -/
theorem argsG {G : Nat → Nat → Prop} {w : World} {sl : Value} {args : List Ex} (h : RepD G w (.sl 4 (exDs args)) sl) : ∃ p cap, sl = .slice p args.length cap ∧ args.length ≤ cap ∧ cap ≤ 9223372036854775807 ∧
    ∀ (j : Nat) (a : Ex), args[j]? = some a → ∃ b o hi s, p = some ⟨b, o, none⟩ ∧ G b hi ∧ o + j * 4 + 4 ≤ hi ∧ w.cell? ⟨b, o + j * 4, none⟩ = some (.int .i64 a.op) ∧ w.cell? ⟨b, o + j * 4 + 1, none⟩ = some (.int .i64 a.n) ∧ w.cell? ⟨b, o + j * 4 + 2, none⟩ = some (.string a.name) ∧ w.cell? ⟨b, o + j * 4 + 3, none⟩ = some s ∧ RepD G w (.sl 4 (exDs a.args)) s := by
  simp only [RepD] at h
  obtain ⟨p, cap, rfl, h1, h2, h3⟩ := h
  rw [exDs_length] at h1
  refine ⟨p, cap, by rw [exDs_length], h1, h2, fun j a ha => ?_⟩
  have hlt := (List.getElem?_eq_some_iff.1 ha).1
  obtain ⟨b, o, rfl, h4, h5⟩ := h3 (by intro e; have := exDs_length args; rw [e] at this; simp at this; rw [← this] at hlt; omega)
  rw [exDs_length] at h4
  have h6 := rowsD_get (j := j) (e := exD a) h5 (by rw [exDs_map]; simp [ha])
  rw [exD_eq] at h6
  simp only [CellsD] at h6
  obtain ⟨⟨u0, c0, r0⟩, ⟨u1, c1, r1⟩, ⟨u2, c2, r2⟩, ⟨u3, c3, r3⟩, _⟩ := h6
  simp only [RepD] at r0 r1 r2
  rw [r0.1] at c0; rw [r1.1] at c1; rw [r2.1] at c2
  exact ⟨b, o, _, u3, rfl, h4, by omega, c0, c1, c2, c3, r3⟩

set_option maxRecDepth 100000 in
set_option maxHeartbeats 4000000 in
theorem visitG {σ : Type} (step : σ → Ex → Nat → σ × Bool) (J Jx : σ → (Nat → Prop) → World → Prop) (P : Ex → Nat → Prop) (G : Nat → Nat → Prop) (w : World) (l Y V : Nat) (hJ : Keeps J G w)
    (hX : ∀ s B B' W, Jx s B W → (∀ b, B' b → B b) → Jx s B' W)
    (hY : ∀ s x v d B W, J s B W → P x d → ExG G w v x → YieldAt Fence.wide 4 Tryz.prog l #[v, .int .i64 (d : Nat)] W (VisP J Jx B (step s x d) W))
    (hP : ∀ s x d, P x d → (step s x d).2 = true → d ≤ 100 ∧ ∀ a ∈ x.args, P a (d + 1)) :
    ∀ (n : Nat) (x : Ex) (sl : Value) (d : Nat) (s : σ) (B : Nat → Prop) (W : World), x.hgt ≤ n → RepD G w (.sl 4 (exDs x.args)) sl → P x d → J s B W → B Y → B V → FunBox W Y (.func (.yield l) #[] #[]) → FunBox W V (.func (.func 96) #[] #[.pointer (some ⟨Y, 0, none⟩), .pointer (some ⟨V, 0, none⟩)]) →
      Calls Tryz.prog 96 #[x.val sl, .int .i64 d, .pointer (some ⟨Y, 0, none⟩), .pointer (some ⟨V, 0, none⟩)] W (VisP J Jx B (walkX step s d x) W) := by
  intro n
  induction n with
  | zero => intro x sl d s B W h; cases x; simp [Ex.hgt] at h
  | succ n ih =>
    intro x sl d s B W hh hsl hPx hJs hBY hBV hbY hbV
    refine (callsIn_wide (n := 6)).1 ?_
    have hE : ExG G w (x.val sl) x := ⟨sl, rfl, hsl⟩
    obtain ⟨p, cap, rfl, hcap, hmax, hargs⟩ := argsG hsl
    obtain ⟨op, n0, nm, l'⟩ := x
    simp only [Ex.val, Ex.op, Ex.n, Ex.name, Ex.args] at hE hargs hcap ⊢
    refine callsIn_of_wp Tryz.func96 rfl trivial ?_ rfl
    simp only [Tryz.ntmps96, List.size_toArray, List.length_cons, List.length_nil, Nat.reduceAdd, Nat.reduceSub, Array.replicate_succ, Array.replicate_zero, List.push_toArray, List.append_toArray, List.nil_append, List.cons_append]
    have cY := hbY.cell
    have cV := hbV.cell
    have hsY := lt_some hbY
    have hsV := lt_some hbV
    obtain ⟨W1, hW1⟩ : ∃ W1, W.alloc (.cells #[.int .i64 op, .int .i64 n0, .string nm, .slice p l'.length cap] 24) = W1 := ⟨_, rfl⟩
    have hb1 : Below W.heap.size W W1 := by rw [← hW1]; exact (Below.refl _ _).alloc (Nat.le_refl _) _
    have hrow1 : W1.heap[W.heap.size]? = some (.cells #[.int .i64 op, .int .i64 n0, .string nm, .slice p l'.length cap] 24 (0, 0)) := by rw [← hW1]; exact heap_alloc_new W _
    have hJ1 := hJ.add s B W W1 W.heap.size hJs hb1 (Nat.le_refl _) (lt_some hrow1)
    have HJ1 := Lib.hid hJ1
    have hy0 := hY s _ _ d _ W1 hJ1 hPx hE
    have HW1 := Lib.hid hW1
    have HR1 := Lib.hid hrow1
    have hkY : W1.heap[Y]? = W.heap[Y]? := hb1.block _ hsY
    have hkV : W1.heap[V]? = W.heap[V]? := hb1.block _ hsV
    have HK1 : Hid (∀ b, b < W.heap.size → W1.heap[b]? = W.heap[b]?) := Lib.hid fun b hb => hb1.block b hb
    have HLT := Lib.hid (hJ.lt s B W hJs)
    have hP1 := hP s _ d hPx
    have HBY := Lib.hid hbY
    have HBV := Lib.hid hbV
    have HKY := Lib.hid hkY
    have HKV := Lib.hid hkV
    have HJ := Lib.hid hJ
    have HX := Lib.hid hX
    have HIH := Lib.hid ih
    have HWX := Lib.hid (walkX_eq step s d (.mk op n0 nm l'))
    have HARG := Lib.hid hargs
    have HB := Lib.hid (And.intro hBY hBV)
    have HB1 := Lib.hid hb1
    obtain ⟨r, hr⟩ : ∃ r, step s (.mk op n0 nm l') d = r := ⟨_, rfl⟩
    rw [hr] at hy0 hP1
    have HP1 := Lib.hid hP1
    rw [hr] at HWX
    obtain ⟨s1, b1⟩ := r
    obtain ⟨fn, tmps, assign, body, hy, hRd⟩ := yieldAt_wide (m' := 5) hy0
    rw [← hW1] at hy
    have HRD := Lib.hid hRd
    have HH := Lib.hid hh
    clear hW1 hb1 hrow1 hP1 hbY hbV hJ hY hP ih hr hy0 hRd hE hJ1 hargs hkY hkV hJs hBY hBV hX hsl hh
    gi_wp2_with fail
    rw [HW1.out]
    refine HRD.out.mono ?_
    rintro e w5 ⟨rfl, hj, hk5⟩
    have HK5 := Lib.hid hk5
    clear hk5 HRD hy
    cases b1 with
    | false =>
      have HJx := Lib.hid hj
      clear hj
      gi_wp2
      go_ret
      rw [if_neg (by simp)] at HWX
      refine ⟨by rw [HWX.out]; rfl, ?_, fun b hb => (HK5.out b (.inl hb)).trans (HK1.out b (HLT.out b hb))⟩
      rw [HWX.out]
      exact HX.out _ _ _ _ HJx.out fun b hb => .inl hb
    | true =>
      have HJ5 := Lib.hid hj
      have hrow5 := (HK5.out _ (.inr rfl)).trans HR1.out
      have c3 : w5.cell? ⟨W.heap.size, 3, none⟩ = some (.slice p l'.length cap) := cell_of_row _ _ _ _ _ _ hrow5
      have hz5 : W.heap.size < w5.heap.size := lt_some hrow5
      have HR5 := Lib.hid hrow5
      rw [if_pos rfl] at HWX
      have hP1 := HP1.out rfl
      clear hj hrow5
      gi_wp2
      gi_loopw [17] (fun i wr => ∃ (j : Nat) (t : σ), j ≤ l'.length ∧ i = .int .i64 j ∧ J t (fun c => B c ∨ c = W.heap.size) wr ∧ (∀ b, (B b ∨ b = W.heap.size) → wr.heap[b]? = w5.heap[b]?) ∧ walkL step t (d + 1) (l'.drop j) = walkX step s d (.mk op n0 nm l')) (fun i _ => l'.length - (intOf i).toNat)
      case atStart => exact ⟨0, s1, Nat.zero_le _, rfl, HJ5.out, fun _ _ => rfl, HWX.out.symm⟩
      case round =>
        obtain ⟨j, t, hj, rfl, hJt, hk, hwl⟩ := hrel
        have HJT := Lib.hid hJt
        have HK := Lib.hid hk
        have HWL := Lib.hid hwl
        have hFY : FunBox wr Y (.func (.yield l) #[] #[]) := ((hk Y (.inl HB.out.1)).trans ((HK5.out Y (.inl HB.out.1)).trans HKY.out)).trans HBY.out
        have hFV : FunBox wr V (.func (.func 96) #[] #[.pointer (some ⟨Y, 0, none⟩), .pointer (some ⟨V, 0, none⟩)]) := ((hk V (.inl HB.out.2)).trans ((HK5.out V (.inl HB.out.2)).trans HKV.out)).trans HBV.out
        have cYr := hFY.cell
        have cVr := hFV.cell
        have HFY := Lib.hid hFY
        have HFV := Lib.hid hFV
        have c3r : wr.cell? ⟨W.heap.size, 3, none⟩ = some (.slice p l'.length cap) := (cell_block (hk _ (.inr rfl))).trans c3
        clear hJt hk hwl hFY hFV
        by_cases hlt : j < l'.length
        · obtain ⟨a, ha⟩ : ∃ a, l'[j]? = some a := ⟨_, List.getElem?_eq_getElem hlt⟩
          obtain ⟨b, o, hi, Sj, rfl, hG, hle, e0, e1, e2, e3, hSj⟩ := HARG.out j a ha
          have hcell := HJ.out.cell _ _ _ HJT.out b hi hG
          have c0 := (hcell (o + j * 4) (by omega)).trans e0
          have c1 := (hcell (o + j * 4 + 1) (by omega)).trans e1
          have c2 := (hcell (o + j * 4 + 2) (by omega)).trans e2
          have c4 := (hcell (o + j * 4 + 3) (by omega)).trans e3
          have hha : a.hgt ≤ n := by
            have h1 := HH.out
            have h2 := hgt_mem (List.mem_of_getElem? ha)
            simp only [Ex.hgt] at h1
            omega
          have hsub := HIH.out a Sj (d + 1) t (fun c => B c ∨ c = W.heap.size)
          have HSUB := Lib.hid hsub
          have HSJ := Lib.hid hSj
          obtain ⟨pj, cj, rfl, -⟩ := argsG hSj
          clear hsub hSj
          have hPa := hP1.2 a (List.mem_of_getElem? ha)
          have hd100 := hP1.1
          have HWD := Lib.hid (walkL_drop step t (d + 1) l' j a ha)
          have hz := cell_lt c0
          clear e0 e1 e2 e3 ha hcell hG
          obtain ⟨oa, na, nma, la⟩ := a
          simp only [Ex.op, Ex.n, Ex.name, Ex.args] at c0 c1 c2 c4
          have hV2 := cell_lt cVr
          have hw1 : IntKind.i64.wrap ((d : Int) + 1) = ((d + 1 : Nat) : Int) := by rw [IntKind.wrap_i64]; omega
          gi_wp2_with fail
          obtain ⟨W6, hW6⟩ : ∃ W6, wr.alloc (.cells #[.int .i64 oa, .int .i64 na, .string nma, .slice pj la.length cj] 24) = W6 := ⟨_, rfl⟩
          have hb6 : Below wr.heap.size wr W6 := by rw [← hW6]; exact (Below.refl _ _).alloc (Nat.le_refl _) _
          have hlt6 := HJ.out.lt _ _ _ HJT.out
          have HK6 : Hid (∀ b, (B b ∨ b = W.heap.size) → W6.heap[b]? = wr.heap[b]?) := Lib.hid fun b hb => hb6.block b (hlt6 b hb)
          have hcall := HSUB.out W6 hha HSJ.out hPa (HJ.out.below _ _ _ _ HJT.out hb6) (.inl HB.out.1) (.inl HB.out.2)
            ((HK6.out Y (.inl HB.out.1)).trans HFY.out) ((HK6.out V (.inl HB.out.2)).trans HFV.out)
          rw [hW6]
          obtain ⟨⟨t6, b6⟩, hr6⟩ : ∃ r, walkX step t (d + 1) (.mk oa na nma la) = r := ⟨_, rfl⟩
          rw [hr6] at hcall
          have HWD' := HWD
          rw [hr6] at HWD'
          have HC := Lib.hid hcall
          clear hcall hr6 hb6 HWD hlt6
          refine ⟨trivial, (callsIn_wide.2 (show Calls Tryz.prog 96 #[.agg #[.int .i64 oa, .int .i64 na, .string nma, .slice pj la.length cj], .int .i64 ((d : Int) + 1), .pointer (some ⟨Y, 0, none⟩), .pointer (some ⟨V, 0, none⟩)] W6 _ from HC.out)).mono ?_⟩
          rintro e w7 ⟨rfl, hj7, hk7⟩
          have HK7 : Hid (∀ b, (B b ∨ b = W.heap.size) → w7.heap[b]? = w5.heap[b]?) := Lib.hid fun b hb => (hk7 b hb).trans ((HK6.out b hb).trans (HK.out b hb))
          clear hk7 HC hW6 hw1
          cases b6 with
          | false =>
            have HJ7 := Lib.hid hj7
            clear hj7
            gi_wp2
            go_ret
            have h := HWD'.out
            rw [if_neg (by simp), HWL.out] at h
            rw [h]
            exact ⟨rfl, HX.out _ _ _ _ HJ7.out fun b hb => .inl hb, fun b hb => (HK7.out b (.inl hb)).trans ((HK5.out b (.inl hb)).trans (HK1.out b (HLT.out b hb)))⟩
          | true =>
            have HJ7 := Lib.hid hj7
            clear hj7
            gi_wp2
            go_round
            case rel => exact ⟨j + 1, t6, by omega, by go_num, HJ7.out, HK7.out, (HWD'.out.trans (if_pos trivial)).symm.trans HWL.out⟩
            case measure => simp [intOf]; omega
        · obtain rfl : j = l'.length := by omega
          gi_wp2
          go_ret
          have h := HWL.out
          rw [List.drop_length, walkL] at h
          rw [← h]
          exact ⟨rfl, HJ.out.drop _ _ _ _ HJT.out fun b hb => .inl hb, fun b hb => (HK.out b (.inl hb)).trans ((HK5.out b (.inl hb)).trans (HK1.out b (HLT.out b hb)))⟩
end Go.Proofs.YtiledamgmppcmaaGreatDoor
/-! NdB -/
namespace Go.Proofs.YtiledamgmppcmaaGreatDoor
open Go.RowKit

attribute [local go_sem] Oper.semAt_some

def NodP {σ : Type} (J Jx : σ → (Nat → Prop) → World → Prop) (B : Nat → Prop) (r : σ × Bool) (e : Ending) (W' : World) : Prop :=
  e = .returned (.tuple #[]) ∧ (if r.2 = true then J r.1 B W' else Jx r.1 B W')
set_option maxRecDepth 100000 in
set_option maxHeartbeats 4000000 in
theorem nodes1G {σ : Type} (step : σ → Ex → Nat → σ × Bool) (J Jx : σ → (Nat → Prop) → World → Prop) (P : Ex → Nat → Prop) (G : Nat → Nat → Prop) (w : World) (l XB : Nat) (hJ : Keeps J G w)
    (hX : ∀ s B B' W, Jx s B W → (∀ b, B' b → B b) → Jx s B' W)
    (hY : ∀ s x v d B W, J s B W → P x d → ExG G w v x → YieldAt Fence.wide 4 Tryz.prog l #[v, .int .i64 (d : Nat)] W (VisP J Jx B (step s x d) W))
    (hP : ∀ s x d, P x d → (step s x d).2 = true → d ≤ 100 ∧ ∀ a ∈ x.args, P a (d + 1))
    (x : Ex) (sl : Value) (s : σ) (B : Nat → Prop) (W0 : World) (ty : TypeId) (hsl : RepD G w (.sl 4 (exDs x.args)) sl) (hPx : P x 1) (hJs : J s B W0) (hb : W0.heap[XB]? = some (.cells (x.val sl).cells ty (0, 0))) :
    Calls Tryz.prog 95 #[.func (.yield l) #[] #[], .pointer (some ⟨XB, 0, none⟩)] W0 (NodP J Jx B (walkX step s 1 x)) := by
  have hmf : ∀ (fn : Fn) (first cap : Array Value) (w : World), (Instr.makeFunc fn first cap).run Tryz.prog w = .ok (.func fn first cap) w := fun _ _ _ _ => rfl
  have HV := Lib.hid (visitG step J Jx P G w l W0.heap.size (W0.heap.size + 1) hJ hX hY hP x.hgt x sl 1 s (fun b => B b ∨ b = W0.heap.size ∨ b = W0.heap.size + 1))
  have HSL := Lib.hid hsl
  obtain ⟨p, cap, rfl, hcap, hmax, -⟩ := argsG hsl
  have HJ := Lib.hid hJ
  have HJS := Lib.hid hJs
  have HX := Lib.hid hX
  obtain ⟨op, n, nm, args⟩ := x
  simp only [Ex.val, Ex.op, Ex.n, Ex.name, Ex.args, Value.cells] at hb hcap
  have c0 : W0.cell? ⟨XB, 0, none⟩ = _ := cell_of_row _ _ _ _ _ _ hb
  have c1 : W0.cell? ⟨XB, 1, none⟩ = _ := cell_of_row _ _ _ _ _ _ hb
  have c2 : W0.cell? ⟨XB, 2, none⟩ = _ := cell_of_row _ _ _ _ _ _ hb
  have c3 : W0.cell? ⟨XB, 3, none⟩ = _ := cell_of_row _ _ _ _ _ _ hb
  simp only [List.getElem?_toArray, List.getElem?_cons_zero, List.getElem?_cons_succ] at c0 c1 c2 c3
  have hz := lt_some hb
  clear hJ hY hP hb hsl hJs hX
  go_enter Tryz.func95, Tryz.ntmps95
  go_wp2_with fail
  refine (HV.out _ (Nat.le_refl _) HSL.out hPx (HJ.out.go _ _ _ _ _ HJS.out ?_ ?_) (.inr (by first | exact .inl rfl | exact .inl trivial)) (.inr (by first | exact .inr rfl | exact .inr trivial)) (heap_alloc_lt (heap_alloc_at rfl)) (heap_alloc_at (by simp))).mono ?_
  · exact ((Below.refl _ _).alloc (Nat.le_refl _) _).alloc (by simp) _
  · rintro b (hb | rfl | rfl)
    · exact .inl hb
    · exact .inr ⟨Nat.le_refl _, by simp; omega⟩
    · exact .inr ⟨by omega, by simp⟩
  rintro e w5 ⟨rfl, hj, -⟩
  have HJ5 := Lib.hid hj
  clear hj
  go_wp2
  go_end0
  refine ⟨rfl, ?_⟩
  have h := HJ5.out
  split at h
  · rename_i hc; rw [if_pos hc]; exact HJ.out.drop _ _ _ _ h fun b hb => .inl hb
  · rename_i hc; rw [if_neg hc]; exact HX.out _ _ _ _ h fun b hb => .inl hb
end Go.Proofs.YtiledamgmppcmaaGreatDoor
/-! NdC -/
namespace Go.Proofs.YtiledamgmppcmaaGreatDoor
open Go.RowKit

/-- A block that is nobody's of those that the view turns. -/
def FreeB (K : Kx) (W : World) (b : Nat) : Prop := b < W.heap.size ∧ b ∉ K.β ∧ ∀ (t : Nat) (c : TokC) (lo : Nat), K.τ[t]? = some c → TokC.blk c ≠ some (b, lo)
theorem FreeB.step {K K' : Kx} {W W' : World} {b : Nat} (h : FreeB K W b) (hs : Step K K' W W') : FreeB K' W' b ∧ W'.heap[b]? = W.heap[b]? := by
  obtain ⟨h1, h2, h3⟩ := h
  refine ⟨⟨Nat.lt_of_lt_of_le h1 hs.size, fun hm => ?_, fun t c lo ht hc => ?_⟩, hs.blocks b h1 h2 h3⟩
  · rcases hs.βnew _ hm with h4 | h4
    · exact h2 h4
    · omega
  · rcases hs.τnew t c _ lo ht hc with h4 | ⟨t0, c0, lo0, h4, h5, _⟩
    · omega
    · exact h3 t0 c0 lo0 h4 h5
theorem FreeB.put {K : Kx} {W : World} {b l : Nat} {o : Obj} (h : FreeB K W b) : FreeB K (W.putObj l o) b := ⟨by rw [World.putObj_size]; exact h.1, h.2⟩
theorem FreeB.new {K : Kx} {S : PS} {W W' : World} {b : Nat} (hI : Inv K S W) (h1 : W.heap.size ≤ b) (h2 : b < W'.heap.size) : FreeB K W' b :=
  ⟨h2, fun hm => by have := hI.boxMem hm; omega, fun t c lo ht hc => by have := hI.tokLt ht hc; omega⟩
theorem FreeB.cut {K : Kx} {W : World} {b n m : Nat} (h : FreeB K W b) : FreeB (K.cut n m) W b :=
  ⟨h.1, fun hm => h.2.1 (List.mem_of_mem_take hm), fun t c lo ht hc => h.2.2 t c lo (take_get ht).1 hc⟩
theorem marks_lt {b0 : Nat} {K : Kx} {w : World} : ∀ {D : List DefP} {ds : List Deferred}, DefReps b0 K w D ds → ∀ d ∈ ds, d.target ≠ .collected w.heap.size
  | [], _, h, d, hd => by rw [show _ = [] from h] at hd; cases hd
  | .mark :: D, _, ⟨k, r, e, h1, _, h2⟩, d, hd => by
    subst e
    rcases List.mem_cons.1 hd with rfl | hd
    · intro e
      have e := Target.collected.inj e
      have hlt := (Array.getElem?_eq_some_iff.1 h1.2.1).1
      omega
    · exact marks_lt h2 d hd
  | .call _ _ :: D, _, ⟨cs, r, e, _, h2⟩, d, hd => by
    subst e
    rcases List.mem_cons.1 hd with rfl | hd
    · intro e; cases e
    · exact marks_lt h2 d hd

theorem marks_lt2 {b0 : Nat} {K : Kx} {w : World} : ∀ {D : List DefP} {ds : List Deferred}, DefReps b0 K w D ds → ∀ d ∈ ds, d.target ≠ .collected (w.heap.size + 1)
  | [], _, h, d, hd => by rw [show _ = [] from h] at hd; cases hd
  | .mark :: D, _, ⟨k, r, e, h1, _, h2⟩, d, hd => by
    subst e
    rcases List.mem_cons.1 hd with rfl | hd
    · intro e
      have e := Target.collected.inj e
      have hlt := (Array.getElem?_eq_some_iff.1 h1.2.1).1
      omega
    · exact marks_lt2 h2 d hd
  | .call _ _ :: D, _, ⟨cs, r, e, _, h2⟩, d, hd => by
    subst e
    rcases List.mem_cons.1 hd with rfl | hd
    · intro e; cases e
    · exact marks_lt2 h2 d hd

/-- How a round may end. -/
def rndQ {σ : Type} (r : σ × Bool) (Sx : σ → PS) (xc : σ → Code) (e : Exit) (_F : Nat → PV) (S' : PS) : Prop :=
  ((e = .normal ∧ r.2 = true) ∨ (r.2 = false ∧ ((e = .ret ∧ xc r.1 = .ret) ∨ ∃ id, e = .exit id ∧ xc r.1 = .exit id))) ∧
  S'.cut (Sx r.1).boxes.length (Sx r.1).toks.length = Sx r.1 ∧ (S'.boxes.take (Sx r.1).boxes.length).all (fun c => PV.ltL (Sx r.1).boxes.length (Sx r.1).toks.length c) = true
/-- How the code that was left with goes on. -/
def exitQ (Q : Exit → (Nat → PV) → PS → List DefP → Prop) (F : Nat → PV) (S : PS) (D : List DefP) : Code → Prop
  | .ret => Q .ret F S D
  | .exit id => Q (.exit id) F S D
  | _ => False

set_option maxHeartbeats 1000000 in
theorem pd_nodes {σ : Type} (step : σ → Ex → Nat → σ × Bool) (Sx : σ → PS) (xc : σ → Code) (ok : σ → Prop) (P : Ex → Nat → Prop) {N : Nat} {f : Operand} {p0 p1 : Nat} {assign body : Code} {Q : Exit → (Nat → PV) → PS → List DefP → Prop} {F : Nat → PV} {S : PS} {D : List DefP} {id : Nat} {x : Ex} (s0 : σ)
    (hf : evP F f = .fn 95 [.ptr id 0]) (hbox : S.boxes[id]? = some (exP x).parts) (hS : S = Sx s0) (hok0 : ok s0) (hok : ∀ s y d, P y d → ok s → ok (step s y d).1) (hmon : ∀ s, (Sx s0).boxes.length ≤ (Sx s).boxes.length ∧ (Sx s0).toks.length ≤ (Sx s).toks.length)
    (hP : ∀ s y d, P y d → (step s y d).2 = true → d ≤ 100 ∧ ∀ a ∈ y.args, P a (d + 1)) (hPx : P x 1)
    (hround : ∀ s y d, P y d → ok s → PW Tryz.prog N assign (thenQ (PW Tryz.prog N body (rndQ (step s y d) Sx xc)) (fun _ _ _ => False)) (putP N (some p1) (.d (.v (.int .i64 (d : Nat)))) (putP N (some p0) (exP y) F)) (Sx s))
    (hend : (walkX step s0 1 x).2 = true → ok (walkX step s0 1 x).1 → Q .normal F (Sx (walkX step s0 1 x).1) (.mark :: D))
    (hstop : (walkX step s0 1 x).2 = false → ok (walkX step s0 1 x).1 → exitQ Q F (Sx (walkX step s0 1 x).1) (.mark :: D) (xc (walkX step s0 1 x).1)) : PD Tryz.prog N (.rangeFunc f #[p0, p1] assign body) Q F S D := by
  subst hS
  refine ⟨fun b0 K w a hb hI hF hD => wpIn_wide (n := 6).1 ?_⟩
  have hfv := hF.ev f
  rw [hf] at hfv
  simp only [Rep, RepL] at hfv
  obtain ⟨cs, hfe, u, us, rfl, ⟨b, hβ, rfl⟩, rfl⟩ := hfv
  refine wpIn_rangeFunc_raw rfl (by omega) hfe trivial (enters_of Tryz.func95 (by kernel_rfl) rfl) ?_
  intro ρ hr
  obtain ⟨c, hc, hlt, C, ty, hC, hcC, hone⟩ := hI.boxLt hβ
  rw [hbox] at hc; cases hc
  simp only [PV.parts, RepL] at hcC
  obtain ⟨u0, l0, e0, r0, u1, l1, rfl, r1, u2, l2, rfl, r2, sl, l3, rfl, r3, rfl⟩ := hcC
  have r0 := rep_v r0
  have r1 := rep_v r1
  have r2 := rep_v r2
  subst r0; subst r1; subst r2
  simp only [Rep] at r3
  obtain ⟨mk, hmk⟩ : ∃ mk, w.heap.size = mk := ⟨_, rfl⟩
  obtain ⟨W0, hW0⟩ : ∃ W0, (w.alloc (.deferred (some []))).alloc (.loop (ρ .ready none)) = W0 := ⟨_, rfl⟩
  have hB0 : Below w.heap.size w W0 := by rw [← hW0]; exact ((Below.refl _ _).alloc (Nat.le_refl _) _).alloc (by simp) _
  have hm0 : W0.heap[mk]? = some (.deferred (some [])) := by rw [← hW0, ← hmk]; exact heap_alloc_lt (heap_alloc_at rfl)
  have hl0 : W0.heap[mk + 1]? = some (.loop (ρ .ready none)) := by rw [← hW0, ← hmk]; exact heap_alloc_at (by simp)
  rw [hmk] at hr ⊢
  rw [hW0]
  obtain ⟨hI0, hs0⟩ := hI.below hB0
  let J : σ → (Nat → Prop) → World → Prop := fun s B W => ∃ K', Step K K' w W ∧ Inv K' (Sx s) W ∧ W.heap[mk + 1]? = some (.loop (ρ .ready none)) ∧ W.heap[mk]? = some (.deferred (some [])) ∧ FreeB K' W (mk + 1) ∧ FreeB K' W mk ∧ ok s ∧ ∀ b, B b → FreeB K' W b ∧ b ≠ mk + 1
  let Jx : σ → (Nat → Prop) → World → Prop := fun s B W => ∃ K', Step K K' w W ∧ Inv K' (Sx s) W ∧ W.heap[mk + 1]? = some (.loop (ρ .done (some (xc s)))) ∧ W.heap[mk]? = some (.deferred (some [])) ∧ FreeB K' W (mk + 1) ∧ FreeB K' W mk ∧ ok s ∧ (xc s = .ret ∨ ∃ id, xc s = .exit id)
  have hJ : Keeps J (K.good w) w := by
    refine ⟨?_, ?_, ?_⟩
    · rintro s B W ⟨K', hs, _⟩ b' hi hg j hj
      exact hs.goodCell hg j hj
    · rintro s B W ⟨K', _, _, _, _, _, _, _, hB⟩ b' hb'
      exact (hB b' hb').1.1
    · rintro s B B' W W' ⟨K', hs, hI', hl, hm, fl, fm, hks, hB⟩ hbe hnew
      obtain ⟨i1, s1⟩ := hI'.below hbe
      refine ⟨K', hs.trans hI s1, i1, (hbe.block _ fl.1).trans hl, (hbe.block _ fm.1).trans hm, (fl.step s1).1, (fm.step s1).1, hks, fun b' hb' => ?_⟩
      rcases hnew b' hb' with h | h
      · exact ⟨((hB b' h).1.step s1).1, (hB b' h).2⟩
      · exact ⟨FreeB.new hI' h.1 h.2, by have := fl.1; omega⟩
  have hX : ∀ s B B' W, Jx s B W → (∀ b, B' b → B b) → Jx s B' W := fun _ _ _ _ h _ => h
  have hYld : ∀ s y v d B W, J s B W → P y d → ExG (K.good w) w v y → YieldAt Fence.wide 4 Tryz.prog (mk + 1) #[v, .int .i64 (d : Nat)] W (VisP J Jx B (step s y d) W) := by
    rintro s y v d B W ⟨K', hs, hI', hl, hm, fl, fm, hks, hB⟩ hPy ⟨sy, rfl, hsy⟩
    refine hr #[_, _] W _ rfl hl ?_
    have hF1 : FrameRep K' W N F { a with defers := [] } := ⟨hF.size, fun t => Rep.step hs _ _ (hF.rep t)⟩
    have hry : Rep K' W (exP y) (y.val sy) := by
      simp only [exP, Ex.val, Rep]
      refine ⟨_, rfl, ?_⟩
      simp only [RepL]
      exact ⟨_, _, rfl, rep_mk rfl, _, _, rfl, rep_mk rfl, _, _, rfl, rep_mk rfl, _, _, rfl, by simpa only [Rep] using RepD.step hs hsy, rfl⟩
    have hF2 := (hF1.put (dst := some p0) (Step.refl K' W) hry).put (dst := some p1) (r := .d (.v (.int .i64 (d : Nat)))) (Step.refl K' W) (rep_mk rfl)
    refine wpIn_mono ((hround s y d hPy hks).run (some (mk + 1)) _ K' W _ hI' (by simpa [Act.put] using hF2)) ?_
    rintro e a1 w1 ⟨K2, F2, S2, s2, i2, f2, d2, q2⟩
    cases e with
    | normal =>
      obtain ⟨fl2, el2⟩ := fl.step s2
      obtain ⟨fm2, em2⟩ := fm.step s2
      have hl2 := el2.trans hl
      refine ⟨hl2, ?_⟩
      have i3 := i2.putO (o' := .loop (ρ .busy none)) hl2 rfl rfl
      refine wpIn_mono (PW.run q2 (some (mk + 1)) _ K2 _ a1 i3 (f2.putO hl2 rfl rfl)) ?_
      rintro e4 a4 w4 ⟨K4, F4, S4, s4, i4, _, _, hq1, hq2, hq3⟩
      obtain ⟨fl4, el4⟩ := (fl2.put (o := .loop (ρ .busy none)) (l := mk + 1)).step s4
      obtain ⟨fm4, em4⟩ := (fm2.put (o := .loop (ρ .busy none)) (l := mk + 1)).step s4
      have hl4 : w4.heap[mk + 1]? = some (.loop (ρ .busy none)) := el4.trans (World.putObj_heap_same fl2.1)
      have hm4 : w4.heap[mk]? = some (.deferred (some [])) := em4.trans ((World.putObj_heap_other (by omega)).trans (em2.trans hm))
      have hcut := i4.cut hq3
      rw [hq2] at hcut
      have sK2 : Step K K2 w (w1.putObj (mk + 1) (.loop (ρ .busy none))) := (hs.trans hI s2).putO hl2 rfl rfl (by omega)
      have sK4 : Step K (K4.cut (Sx (step s y d).1).boxes.length (Sx (step s y d).1).toks.length) w w4 := step_cut hI (sK2.trans hI s4) (hmon _).1 (hmon _).2
      have hkeep : ∀ (ob : Obj) (b' : Nat), B b' → (w4.putObj (mk + 1) ob).heap[b']? = W.heap[b']? := fun ob b' hb' => by
        obtain ⟨g1, g2⟩ := hB b' hb'
        obtain ⟨g3, g4⟩ := g1.step s2
        obtain ⟨_, g6⟩ := (g3.put (o := .loop (ρ .busy none)) (l := mk + 1)).step s4
        exact (World.putObj_heap_other g2).trans (g6.trans ((World.putObj_heap_other g2).trans g4))
      rcases hq1 with ⟨rfl, hb1⟩ | ⟨hb1, ⟨rfl, hxc⟩ | ⟨idx, rfl, hxc⟩⟩
      · refine ⟨hl4, by rw [hb1], ?_, hkeep _⟩
        rw [if_pos hb1]
        refine ⟨_, sK4.putO hl4 rfl rfl (by omega), hcut.putO hl4 rfl rfl, World.putObj_heap_same fl4.1, (World.putObj_heap_other (by omega)).trans hm4, fl4.cut.put, fm4.cut.put, hok s y d hPy hks, fun b' hb' => ?_⟩
        obtain ⟨g1, g2⟩ := hB b' hb'
        obtain ⟨g3, _⟩ := g1.step s2
        exact ⟨((g3.put (o := .loop (ρ .busy none)) (l := mk + 1)).step s4).1.cut.put, g2⟩
      · refine ⟨hl4, by rw [hb1], ?_, hkeep _⟩
        rw [if_neg (by rw [hb1]; simp)]
        exact ⟨_, sK4.putO hl4 rfl rfl (by omega), hcut.putO hl4 rfl rfl, by rw [hxc]; exact World.putObj_heap_same fl4.1, (World.putObj_heap_other (by omega)).trans hm4, fl4.cut.put, fm4.cut.put, hok s y d hPy hks, .inl hxc⟩
      · refine ⟨hl4, by rw [hb1], ?_, hkeep _⟩
        rw [if_neg (by rw [hb1]; simp)]
        exact ⟨_, sK4.putO hl4 rfl rfl (by omega), hcut.putO hl4 rfl rfl, by rw [hxc]; exact World.putObj_heap_same fl4.1, (World.putObj_heap_other (by omega)).trans hm4, fl4.cut.put, fm4.cut.put, hok s y d hPy hks, .inr ⟨idx, hxc⟩⟩
    | ret => exact q2.elim
    | exit id => exact q2.elim
    | goto l => exact q2.elim
    | panic c => exact q2.elim
    | outgrown => exact q2.elim
  have hb' : W0.heap[b]? = some (.cells (x.val sl).cells ty (0, 0)) := by
    rw [hB0.block b hlt, hC]
    have : C = (x.val sl).cells := by apply Array.ext'; rw [e0]; rfl
    rw [this]
  have hJ0 : J s0 (fun _ => False) W0 := ⟨K, hs0, hI0, hl0, hm0, FreeB.new hI (by omega) (Array.getElem?_eq_some_iff.1 hl0).1, FreeB.new hI (by omega) (Array.getElem?_eq_some_iff.1 hm0).1, hok0, fun _ h => h.elim⟩
  refine (callsIn_wide.2 (nodes1G step J Jx P (K.good w) w (mk + 1) b hJ hX hYld hP x sl s0 (fun _ => False) W0 ty r3 hPx hJ0 hb')).mono ?_
  have hmks := marks_lt hD
  rw [hmk] at hmks
  rintro e W ⟨rfl, hj⟩
  by_cases hw : (walkX step s0 1 x).2 = true
  · rw [if_pos hw] at hj
    obtain ⟨K', hs, hI', hl, hm, fl, fm, hks, _⟩ := hj
    refine .inl ⟨hl, K', F, _, _, hs.putO hl rfl rfl (by omega), hI'.putO hl rfl rfl, ?_, ?_, hend hw hks⟩
    · exact ⟨hF.size, fun t => Rep.putO hl rfl rfl _ _ (Rep.step hs _ _ (hF.rep t))⟩
    · refine ⟨mk, a.defers, rfl, ⟨by omega, (World.putObj_heap_other (by omega)).trans hm, fm.2⟩, hmks, ?_⟩
      exact (hD.step hs).putO hl rfl rfl fun d hd => by have := marks_lt2 hD d hd; rw [hmk] at this; exact this
  · have hw' : (walkX step s0 1 x).2 = false := by simpa using hw
    rw [if_neg hw] at hj
    obtain ⟨K', hs, hI', hl, hm, fl, fm, hks, hxc⟩ := hj
    refine .inr ⟨_, hl, ?_⟩
    have hq := hstop hw' hks
    have fin : ∀ e, (∀ a' w', Q e F (Sx (walkX step s0 1 x).1) (.mark :: D) → a'.tmps = a.tmps → a'.defers = { target := .collected mk, args := #[] } :: a.defers → w' = W.putObj (mk + 1) (.loop (ρ .exhausted (some (xc (walkX step s0 1 x).1)))) → QD b0 K w N Q e a' w') := by
      rintro e ⟨tm, df⟩ w' hq rfl rfl rfl
      refine ⟨K', F, _, _, hs.putO hl rfl rfl (by omega), hI'.putO hl rfl rfl, ?_, ?_, hq⟩
      · exact ⟨hF.size, fun t => Rep.putO hl rfl rfl _ _ (Rep.step hs _ _ (hF.rep t))⟩
      · refine ⟨mk, a.defers, rfl, ⟨by omega, (World.putObj_heap_other (by omega)).trans hm, fm.2⟩, hmks, ?_⟩
        exact (hD.step hs).putO hl rfl rfl fun d hd => by have := marks_lt2 hD d hd; rw [hmk] at this; exact this
    rcases hxc with hxc | ⟨idx, hxc⟩
    · rw [hxc] at hq fin ⊢
      exact wpIn_ret (fin .ret _ _ hq rfl rfl rfl)
    · rw [hxc] at hq fin ⊢
      exact wpIn_exit (fin (.exit idx) _ _ hq rfl rfl rfl)
end Go.Proofs.YtiledamgmppcmaaGreatDoor
/-! RfF -/
namespace Go.Proofs.YtiledamgmppcmaaGreatDoor
open Go.RowKit
mutual
/-- The names in the order in which they come first. -/
def addX (l : List ByteArray) : Ex → List ByteArray
  | .mk o _ s a => addXs (if o = 2 ∧ memS l s = false then l ++ [s] else l) a
def addXs (l : List ByteArray) : List Ex → List ByteArray
  | [] => l
  | x :: r => addXs (addX l x) r
end
theorem addX_eq (l : List ByteArray) (x : Ex) : addX l x = addXs (if x.op = 2 ∧ memS l x.name = false then l ++ [x.name] else l) x.args := by cases x; rw [addX]; rfl
theorem addXs_take {l : List ByteArray} : ∀ {a : List Ex} {i : Nat} {x : Ex}, a[i]? = some x → addXs l (a.take (i + 1)) = addX (addXs l (a.take i)) x
  | [], i, x, h => by simp at h
  | y :: a, 0, x, h => by simp at h; subst h; simp [addXs]
  | y :: a, i + 1, x, h => by
    simp only [List.getElem?_cons_succ] at h
    simp only [List.take_succ_cons, addXs]
    exact addXs_take h
@[reducible] def rowS (l : List ByteArray) : RTok := ⟨l.length, 1, l.map strE, 9⟩
mutual
theorem addX_le : ∀ (x : Ex) (l : List ByteArray), l.length ≤ (addX l x).length
  | .mk o n s a, l => by
    rw [addX]
    refine Nat.le_trans ?_ (addXs_le a _)
    split <;> simp
theorem addXs_le : ∀ (a : List Ex) (l : List ByteArray), l.length ≤ (addXs l a).length
  | [], l => Nat.le_refl _
  | x :: r, l => by rw [addXs]; exact Nat.le_trans (addX_le x l) (addXs_le r _)
end
theorem addXs_append : ∀ (a b : List Ex) (l : List ByteArray), addXs l (a ++ b) = addXs (addXs l a) b
  | [], b, l => rfl
  | x :: r, b, l => by simp only [List.cons_append, addXs]; exact addXs_append r b _
set_option maxHeartbeats 1000000 in
theorem add_do : ∀ (n : Nat) (x : Ex) (l : List ByteArray), x.hgt ≤ n → (addX l x).length ≤ 1000000 → Does 52 [.hd 0 l.length, exP x] ⟨[], [rowS l]⟩ (.ret (.hd 0 (addX l x).length)) ⟨[], [rowS (addX l x)]⟩ := by
  intro n
  induction n with
  | zero => intro x l h; cases x; simp [Ex.hgt] at h
  | succ n ih =>
    intro x l hn hlen
    refine does_bodyf Tryz.func52 rfl rfl (Nat.le_of_ble_eq_true rfl) rfl (Nat.le_refl _) ?_
    intro hf
    have hfit : x.args.length ≤ 9223372036854775807 := by rw [← exDs_length]; exact hf.2.1.2.2.2.1
    have hmono : ∀ (l' : List ByteArray), addXs l' x.args = addX l x → ∀ i, (addXs l' (x.args.take i)).length ≤ 1000000 := by
      intro l' he i
      refine Nat.le_trans ?_ hlen
      rw [← he]
      conv => rhs; rw [← List.take_append_drop i x.args, addXs_append]
      exact addXs_le _ _
    repeat' (first | refine q1 ?_ | refine q2 ?_ | refine wk_nil ?_ | refine wa_nil ?_ | refine pw_seq ?_ | refine pw_region ?_ | refine pw_block ?_ | refine pw_skip ?_ | refine pw_ret ?_ | refine pw_exit ?_ | refine q3 ?_ | refine q4 ?_ | refine q5 ?_ | refine q6 ?_ | refine q7 ?_ | refine q8 ?_ | refine q17 (fun h => ?_) (fun h => ?_) | refine q18 (fun h => ?_) (fun h => ?_) | refine q9 ?_ | refine q10 ?_ | refine q11 ?_ | refine q12 ?_ | refine q13 ?_ | refine q14 ?_ | refine q15 ?_ | refine q16 (fun h => ?_) (fun h => ?_) | fail)
    · refine wcp' (in_do l x.name) rfl rfl rfl rfl rfl (coeL_cons (coe_s (toS_hd rfl)) (coeL_cons (coe_refl _) coeL_nil)) ?_
      repeat' (first | refine q1 ?_ | refine q2 ?_ | refine wk_nil ?_ | refine wa_nil ?_ | refine pw_seq ?_ | refine pw_region ?_ | refine pw_block ?_ | refine pw_skip ?_ | refine pw_ret ?_ | refine pw_exit ?_ | refine q3 ?_ | refine q4 ?_ | refine q5 ?_ | refine q6 ?_ | refine q7 ?_ | refine q8 ?_ | refine q17 (fun h => ?_) (fun h => ?_) | refine q18 (fun h => ?_) (fun h => ?_) | refine q9 ?_ | refine q10 ?_ | refine q11 ?_ | refine q12 ?_ | refine q13 ?_ | refine q14 ?_ | refine q15 ?_ | refine q16 (fun h => ?_) (fun h => ?_) | fail)
      · have he : addXs (l ++ [x.name]) x.args = addX l x := by rw [addX_eq, if_pos ⟨by simp_all, by simp_all⟩]
        have h0 := hmono _ he 0
        simp only [List.take_zero, addXs, List.length_append, List.length_singleton] at h0
        refine wapp (news := [strE x.name]) (S' := ⟨[(exP x).parts], [rowS (l ++ [x.name])]⟩) rfl rfl rfl rfl rfl rfl ?_ ?_ ?_ ?_
        · simp; show _ * 16 ≤ _; omega
        · simp; omega
        · simp [PS.setTok, rowS, PV.parts]
        repeat' (first | refine q1 ?_ | refine q2 ?_ | refine wk_nil ?_ | refine wa_nil ?_ | refine pw_seq ?_ | refine pw_region ?_ | refine pw_block ?_ | refine pw_skip ?_ | refine pw_ret ?_ | refine pw_exit ?_ | refine q3 ?_ | refine q4 ?_ | refine q5 ?_ | refine q6 ?_ | refine q7 ?_ | refine q8 ?_ | refine q17 (fun h => ?_) (fun h => ?_) | refine q18 (fun h => ?_) (fun h => ?_) | refine q9 ?_ | refine q10 ?_ | refine q11 ?_ | refine q12 ?_ | refine q13 ?_ | refine q14 ?_ | refine q15 ?_ | refine q16 (fun h => ?_) (fun h => ?_) | fail)
        refine pw_loop (ι := Nat) (ok := fun i => i ≤ x.args.length) (L := fun i => [(0, .hd 0 (addXs ((l ++ [x.name])) (x.args.take i)).length), (3, .ptr 0 0), (5, intP i)]) (Sx := fun i => ⟨[(exP x).parts], [rowS (addXs ((l ++ [x.name])) (x.args.take i))]⟩) (μ := fun i => x.args.length - i) 0 (Nat.zero_le _) (frle_cons (by simp only [List.take_zero, addXs]; first | rfl | (simp; rfl)) (by repeat (first | exact frle_nil | refine frle_cons rfl ?_))) rfl ?_
        rintro i hi
        repeat' (first | refine q1 ?_ | refine q2 ?_ | refine wk_nil ?_ | refine wa_nil ?_ | refine pw_seq ?_ | refine pw_region ?_ | refine pw_block ?_ | refine pw_skip ?_ | refine pw_ret ?_ | refine pw_exit ?_ | refine q3 ?_ | refine q4 ?_ | refine q5 ?_ | refine q6 ?_ | refine q7 ?_ | refine q8 ?_ | refine q17 (fun h => ?_) (fun h => ?_) | refine q18 (fun h => ?_) (fun h => ?_) | refine q9 ?_ | refine q10 ?_ | refine q11 ?_ | refine q12 ?_ | refine q13 ?_ | refine q14 ?_ | refine q15 ?_ | refine q16 (fun h => ?_) (fun h => ?_) | fail)
        · have hlt : i < x.args.length := by rw [exDs_length] at h; simpa using h
          obtain ⟨y, hy⟩ : ∃ y, x.args[i]? = some y := ⟨_, List.getElem?_eq_getElem hlt⟩
          refine wix _ rfl rfl rfl rfl rfl (exDs_get hy) (by omega) ?_
          repeat' (first | refine q1 ?_ | refine q2 ?_ | refine wk_nil ?_ | refine wa_nil ?_ | refine pw_seq ?_ | refine pw_region ?_ | refine pw_block ?_ | refine pw_skip ?_ | refine pw_ret ?_ | refine pw_exit ?_ | refine q3 ?_ | refine q4 ?_ | refine q5 ?_ | refine q6 ?_ | refine q7 ?_ | refine q8 ?_ | refine q17 (fun h => ?_) (fun h => ?_) | refine q18 (fun h => ?_) (fun h => ?_) | refine q9 ?_ | refine q10 ?_ | refine q11 ?_ | refine q12 ?_ | refine q13 ?_ | refine q14 ?_ | refine q15 ?_ | refine q16 (fun h => ?_) (fun h => ?_) | fail)
          have hm := hmono _ he (i + 1)
          rw [addXs_take hy] at hm
          refine wct (t := 0) (ih y _ (by have := hgt_arg (List.mem_of_getElem? hy); omega) hm) rfl rfl rfl rfl rfl (by repeat (first | exact coeL_nil | refine coeL_cons (coe_refl _) ?_)) rfl ?_
          repeat' (first | refine q1 ?_ | refine q2 ?_ | refine wk_nil ?_ | refine wa_nil ?_ | refine pw_seq ?_ | refine pw_region ?_ | refine pw_block ?_ | refine pw_skip ?_ | refine pw_ret ?_ | refine pw_exit ?_ | refine q3 ?_ | refine q4 ?_ | refine q5 ?_ | refine q6 ?_ | refine q7 ?_ | refine q8 ?_ | refine q17 (fun h => ?_) (fun h => ?_) | refine q18 (fun h => ?_) (fun h => ?_) | refine q9 ?_ | refine q10 ?_ | refine q11 ?_ | refine q12 ?_ | refine q13 ?_ | refine q14 ?_ | refine q15 ?_ | refine q16 (fun h => ?_) (fun h => ?_) | fail)
          exact ⟨i + 1, by omega, by omega, by rw [addXs_take hy]; exact (by repeat (first | exact frle_nil | refine frle_cons rfl ?_)), by rw [addXs_take hy]; rfl⟩
        · have hi' : i = x.args.length := by rw [exDs_length] at h; simp at h; omega
          subst hi'
          rw [List.take_length, he]
          refine q15 ?_
          rfl
      · have he : addXs l x.args = addX l x := by rw [addX_eq, if_neg (by simp_all)]
        refine pw_loop (ι := Nat) (ok := fun i => i ≤ x.args.length) (L := fun i => [(0, .hd 0 (addXs (l) (x.args.take i)).length), (3, .ptr 0 0), (5, intP i)]) (Sx := fun i => ⟨[(exP x).parts], [rowS (addXs (l) (x.args.take i))]⟩) (μ := fun i => x.args.length - i) 0 (Nat.zero_le _) (frle_cons (by simp only [List.take_zero, addXs]; first | rfl | (simp; rfl)) (by repeat (first | exact frle_nil | refine frle_cons rfl ?_))) rfl ?_
        rintro i hi
        repeat' (first | refine q1 ?_ | refine q2 ?_ | refine wk_nil ?_ | refine wa_nil ?_ | refine pw_seq ?_ | refine pw_region ?_ | refine pw_block ?_ | refine pw_skip ?_ | refine pw_ret ?_ | refine pw_exit ?_ | refine q3 ?_ | refine q4 ?_ | refine q5 ?_ | refine q6 ?_ | refine q7 ?_ | refine q8 ?_ | refine q17 (fun h => ?_) (fun h => ?_) | refine q18 (fun h => ?_) (fun h => ?_) | refine q9 ?_ | refine q10 ?_ | refine q11 ?_ | refine q12 ?_ | refine q13 ?_ | refine q14 ?_ | refine q15 ?_ | refine q16 (fun h => ?_) (fun h => ?_) | fail)
        · have hlt : i < x.args.length := by rw [exDs_length] at h; simpa using h
          obtain ⟨y, hy⟩ : ∃ y, x.args[i]? = some y := ⟨_, List.getElem?_eq_getElem hlt⟩
          refine wix _ rfl rfl rfl rfl rfl (exDs_get hy) (by omega) ?_
          repeat' (first | refine q1 ?_ | refine q2 ?_ | refine wk_nil ?_ | refine wa_nil ?_ | refine pw_seq ?_ | refine pw_region ?_ | refine pw_block ?_ | refine pw_skip ?_ | refine pw_ret ?_ | refine pw_exit ?_ | refine q3 ?_ | refine q4 ?_ | refine q5 ?_ | refine q6 ?_ | refine q7 ?_ | refine q8 ?_ | refine q17 (fun h => ?_) (fun h => ?_) | refine q18 (fun h => ?_) (fun h => ?_) | refine q9 ?_ | refine q10 ?_ | refine q11 ?_ | refine q12 ?_ | refine q13 ?_ | refine q14 ?_ | refine q15 ?_ | refine q16 (fun h => ?_) (fun h => ?_) | fail)
          have hm := hmono _ he (i + 1)
          rw [addXs_take hy] at hm
          refine wct (t := 0) (ih y _ (by have := hgt_arg (List.mem_of_getElem? hy); omega) hm) rfl rfl rfl rfl rfl (by repeat (first | exact coeL_nil | refine coeL_cons (coe_refl _) ?_)) rfl ?_
          repeat' (first | refine q1 ?_ | refine q2 ?_ | refine wk_nil ?_ | refine wa_nil ?_ | refine pw_seq ?_ | refine pw_region ?_ | refine pw_block ?_ | refine pw_skip ?_ | refine pw_ret ?_ | refine pw_exit ?_ | refine q3 ?_ | refine q4 ?_ | refine q5 ?_ | refine q6 ?_ | refine q7 ?_ | refine q8 ?_ | refine q17 (fun h => ?_) (fun h => ?_) | refine q18 (fun h => ?_) (fun h => ?_) | refine q9 ?_ | refine q10 ?_ | refine q11 ?_ | refine q12 ?_ | refine q13 ?_ | refine q14 ?_ | refine q15 ?_ | refine q16 (fun h => ?_) (fun h => ?_) | fail)
          exact ⟨i + 1, by omega, by omega, by rw [addXs_take hy]; exact (by repeat (first | exact frle_nil | refine frle_cons rfl ?_)), by rw [addXs_take hy]; rfl⟩
        · have hi' : i = x.args.length := by rw [exDs_length] at h; simp at h; omega
          subst hi'
          rw [List.take_length, he]
          refine q15 ?_
          rfl
    · have he : addXs l x.args = addX l x := by rw [addX_eq, if_neg (by simp_all)]
      refine pw_loop (ι := Nat) (ok := fun i => i ≤ x.args.length) (L := fun i => [(0, .hd 0 (addXs (l) (x.args.take i)).length), (3, .ptr 0 0), (5, intP i)]) (Sx := fun i => ⟨[(exP x).parts], [rowS (addXs (l) (x.args.take i))]⟩) (μ := fun i => x.args.length - i) 0 (Nat.zero_le _) (frle_cons (by simp only [List.take_zero, addXs]; first | rfl | (simp; rfl)) (by repeat (first | exact frle_nil | refine frle_cons rfl ?_))) rfl ?_
      rintro i hi
      repeat' (first | refine q1 ?_ | refine q2 ?_ | refine wk_nil ?_ | refine wa_nil ?_ | refine pw_seq ?_ | refine pw_region ?_ | refine pw_block ?_ | refine pw_skip ?_ | refine pw_ret ?_ | refine pw_exit ?_ | refine q3 ?_ | refine q4 ?_ | refine q5 ?_ | refine q6 ?_ | refine q7 ?_ | refine q8 ?_ | refine q17 (fun h => ?_) (fun h => ?_) | refine q18 (fun h => ?_) (fun h => ?_) | refine q9 ?_ | refine q10 ?_ | refine q11 ?_ | refine q12 ?_ | refine q13 ?_ | refine q14 ?_ | refine q15 ?_ | refine q16 (fun h => ?_) (fun h => ?_) | fail)
      · have hlt : i < x.args.length := by rw [exDs_length] at h; simpa using h
        obtain ⟨y, hy⟩ : ∃ y, x.args[i]? = some y := ⟨_, List.getElem?_eq_getElem hlt⟩
        refine wix _ rfl rfl rfl rfl rfl (exDs_get hy) (by omega) ?_
        repeat' (first | refine q1 ?_ | refine q2 ?_ | refine wk_nil ?_ | refine wa_nil ?_ | refine pw_seq ?_ | refine pw_region ?_ | refine pw_block ?_ | refine pw_skip ?_ | refine pw_ret ?_ | refine pw_exit ?_ | refine q3 ?_ | refine q4 ?_ | refine q5 ?_ | refine q6 ?_ | refine q7 ?_ | refine q8 ?_ | refine q17 (fun h => ?_) (fun h => ?_) | refine q18 (fun h => ?_) (fun h => ?_) | refine q9 ?_ | refine q10 ?_ | refine q11 ?_ | refine q12 ?_ | refine q13 ?_ | refine q14 ?_ | refine q15 ?_ | refine q16 (fun h => ?_) (fun h => ?_) | fail)
        have hm := hmono _ he (i + 1)
        rw [addXs_take hy] at hm
        refine wct (t := 0) (ih y _ (by have := hgt_arg (List.mem_of_getElem? hy); omega) hm) rfl rfl rfl rfl rfl (by repeat (first | exact coeL_nil | refine coeL_cons (coe_refl _) ?_)) rfl ?_
        repeat' (first | refine q1 ?_ | refine q2 ?_ | refine wk_nil ?_ | refine wa_nil ?_ | refine pw_seq ?_ | refine pw_region ?_ | refine pw_block ?_ | refine pw_skip ?_ | refine pw_ret ?_ | refine pw_exit ?_ | refine q3 ?_ | refine q4 ?_ | refine q5 ?_ | refine q6 ?_ | refine q7 ?_ | refine q8 ?_ | refine q17 (fun h => ?_) (fun h => ?_) | refine q18 (fun h => ?_) (fun h => ?_) | refine q9 ?_ | refine q10 ?_ | refine q11 ?_ | refine q12 ?_ | refine q13 ?_ | refine q14 ?_ | refine q15 ?_ | refine q16 (fun h => ?_) (fun h => ?_) | fail)
        exact ⟨i + 1, by omega, by omega, by rw [addXs_take hy]; exact (by repeat (first | exact frle_nil | refine frle_cons rfl ?_)), by rw [addXs_take hy]; rfl⟩
      · have hi' : i = x.args.length := by rw [exDs_length] at h; simp at h; omega
        subst hi'
        rw [List.take_length, he]
        refine q15 ?_
        rfl
end Go.Proofs.YtiledamgmppcmaaGreatDoor
/-! ExO -/
namespace Go.Proofs.YtiledamgmppcmaaGreatDoor
open Go.RowKit
def typeX (vars : List ByteArray) (x : Ex) : Int × Int := if checkX x ≠ 0 then (0, 350) else if kindX vars x = 0 then (0, 351) else (kindX vars x, 0)
mutual
theorem vis_fits : ∀ (x : Ex) (left d : Nat), (vis left d x).isSome = true → x.fits = true
  | .mk o n s l, left, d, h => by
    rw [vis] at h
    split at h
    · simp at h
    · rename_i hc
      simp only [not_or] at hc
      have hp : plainX (.mk o n s l) = true := by simpa using hc.2.2
      simp only [plainX, Bool.and_eq_true, decide_eq_true_eq] at hp
      simp only [Ex.fits, Bool.and_eq_true, decide_eq_true_eq]
      exact ⟨hp.1.1.1.1, visL_fits l _ _ h⟩
theorem visL_fits : ∀ (l : List Ex) (left d : Nat), (visL left d l).isSome = true → fitsL l = true
  | [], _, _, _ => rfl
  | x :: r, left, d, h => by
    rw [visL] at h
    cases e : vis left d x with
    | none => rw [e] at h; simp at h
    | some k =>
      rw [e] at h
      simp only [fitsL, Bool.and_eq_true]
      exact ⟨vis_fits x left d (by rw [e]; rfl), visL_fits r _ _ h⟩
end
theorem check_fits {x : Ex} (h : checkX x = 0) : x.fits = true := by
  unfold checkX validX at h
  split at h
  · exact vis_fits x _ _ (by assumption)
  · omega
set_option maxHeartbeats 1000000 in
theorem type_do (vars : List ByteArray) (x : Ex) (hs : x.small) : Does 22 [exP x, strsP vars] ⟨[], []⟩ (.ret (.tup [intP (typeX vars x).1, intP (typeX vars x).2])) ⟨[], []⟩ := by
  refine does_body Tryz.func22 rfl rfl (Nat.le_of_ble_eq_true rfl) rfl (Nat.le_refl _) ?_
  repeat' (first | refine q1 ?_ | refine q2 ?_ | refine wk_nil ?_ | refine wa_nil ?_ | refine pw_seq ?_ | refine pw_region ?_ | refine pw_block ?_ | refine pw_skip ?_ | refine pw_ret ?_ | refine pw_exit ?_ | refine q3 ?_ | refine q4 ?_ | refine q5 ?_ | refine q6 ?_ | refine q7 ?_ | refine q8 ?_ | refine q17 (fun h => ?_) (fun h => ?_) | refine q18 (fun h => ?_) (fun h => ?_) | refine q9 ?_ | refine q10 ?_ | refine q11 ?_ | refine q12 ?_ | refine q13 ?_ | refine q14 ?_ | refine q15 ?_ | refine q16 (fun h => ?_) (fun h => ?_) | fail)
  refine wcp' (check_do x hs) rfl rfl rfl rfl rfl (by repeat (first | exact coeL_nil | refine coeL_cons (coe_refl _) ?_)) ?_
  repeat' (first | refine q1 ?_ | refine q2 ?_ | refine wk_nil ?_ | refine wa_nil ?_ | refine pw_seq ?_ | refine pw_region ?_ | refine pw_block ?_ | refine pw_skip ?_ | refine pw_ret ?_ | refine pw_exit ?_ | refine q3 ?_ | refine q4 ?_ | refine q5 ?_ | refine q6 ?_ | refine q7 ?_ | refine q8 ?_ | refine q17 (fun h => ?_) (fun h => ?_) | refine q18 (fun h => ?_) (fun h => ?_) | refine q9 ?_ | refine q10 ?_ | refine q11 ?_ | refine q12 ?_ | refine q13 ?_ | refine q14 ?_ | refine q15 ?_ | refine q16 (fun h => ?_) (fun h => ?_) | fail)
  · rw [show typeX vars x = (0, checkX x) from by unfold typeX checkX at *; split <;> simp_all]
  have hc : checkX x = 0 := by simpa using h
  refine wcp' (typed_do vars x.hgt x (Nat.le_refl _) (check_fits hc)) rfl rfl rfl rfl rfl (by repeat (first | exact coeL_nil | refine coeL_cons (coe_refl _) ?_)) ?_
  repeat' (first | refine q1 ?_ | refine q2 ?_ | refine wk_nil ?_ | refine wa_nil ?_ | refine pw_seq ?_ | refine pw_region ?_ | refine pw_block ?_ | refine pw_skip ?_ | refine pw_ret ?_ | refine pw_exit ?_ | refine q3 ?_ | refine q4 ?_ | refine q5 ?_ | refine q6 ?_ | refine q7 ?_ | refine q8 ?_ | refine q17 (fun h => ?_) (fun h => ?_) | refine q18 (fun h => ?_) (fun h => ?_) | refine q9 ?_ | refine q10 ?_ | refine q11 ?_ | refine q12 ?_ | refine q13 ?_ | refine q14 ?_ | refine q15 ?_ | refine q16 (fun h => ?_) (fun h => ?_) | fail)
  · rw [show typeX vars x = (0, 351) from by simp_all [typeX]]
  · rw [show typeX vars x = (kindX vars x, 0) from by simp_all [typeX]]
theorem valid_check (x : Ex) : checkX x = 0 ↔ validX x = true := by unfold checkX; split <;> simp_all
set_option maxHeartbeats 1000000 in
theorem rtype_do (vars : List ByteArray) (x : Ex) (hs : x.small) : Does 23 [exP x, strsP vars] ⟨[], []⟩ (.ret (.tup [intP (typeX vars x).1, intP (typeX vars x).2])) ⟨[], []⟩ := by
  refine does_body Tryz.func23 rfl rfl (Nat.le_of_ble_eq_true rfl) rfl (Nat.le_refl _) ?_
  repeat' (first | refine q1 ?_ | refine q2 ?_ | refine wk_nil ?_ | refine wa_nil ?_ | refine pw_seq ?_ | refine pw_region ?_ | refine pw_block ?_ | refine pw_skip ?_ | refine pw_ret ?_ | refine pw_exit ?_ | refine q3 ?_ | refine q4 ?_ | refine q5 ?_ | refine q6 ?_ | refine q7 ?_ | refine q8 ?_ | refine q17 (fun h => ?_) (fun h => ?_) | refine q18 (fun h => ?_) (fun h => ?_) | refine q9 ?_ | refine q10 ?_ | refine q11 ?_ | refine q12 ?_ | refine q13 ?_ | refine q14 ?_ | refine q15 ?_ | refine q16 (fun h => ?_) (fun h => ?_) | fail)
  refine wcp' (right_do x hs) rfl rfl rfl rfl rfl (by repeat (first | exact coeL_nil | refine coeL_cons (coe_refl _) ?_)) ?_
  repeat' (first | refine q1 ?_ | refine q2 ?_ | refine wk_nil ?_ | refine wa_nil ?_ | refine pw_seq ?_ | refine pw_region ?_ | refine pw_block ?_ | refine pw_skip ?_ | refine pw_ret ?_ | refine pw_exit ?_ | refine q3 ?_ | refine q4 ?_ | refine q5 ?_ | refine q6 ?_ | refine q7 ?_ | refine q8 ?_ | refine q17 (fun h => ?_) (fun h => ?_) | refine q18 (fun h => ?_) (fun h => ?_) | refine q9 ?_ | refine q10 ?_ | refine q11 ?_ | refine q12 ?_ | refine q13 ?_ | refine q14 ?_ | refine q15 ?_ | refine q16 (fun h => ?_) (fun h => ?_) | fail)
  · rw [show typeX vars x = (0, 350) from by have := valid_check x; simp_all [typeX]]
  have hc : checkX x = 0 := (valid_check x).2 (by simpa using h)
  refine wcp' (kind_do vars x.hgt x (Nat.le_refl _) (check_fits hc)) rfl rfl rfl rfl rfl (by repeat (first | exact coeL_nil | refine coeL_cons (coe_refl _) ?_)) ?_
  repeat' (first | refine q1 ?_ | refine q2 ?_ | refine wk_nil ?_ | refine wa_nil ?_ | refine pw_seq ?_ | refine pw_region ?_ | refine pw_block ?_ | refine pw_skip ?_ | refine pw_ret ?_ | refine pw_exit ?_ | refine q3 ?_ | refine q4 ?_ | refine q5 ?_ | refine q6 ?_ | refine q7 ?_ | refine q8 ?_ | refine q17 (fun h => ?_) (fun h => ?_) | refine q18 (fun h => ?_) (fun h => ?_) | refine q9 ?_ | refine q10 ?_ | refine q11 ?_ | refine q12 ?_ | refine q13 ?_ | refine q14 ?_ | refine q15 ?_ | refine q16 (fun h => ?_) (fun h => ?_) | fail)
  · rw [show typeX vars x = (0, 351) from by simp_all [typeX]]
  · rw [show typeX vars x = (kindX vars x, 0) from by simp_all [typeX]]
end Go.Proofs.YtiledamgmppcmaaGreatDoor
/-! RfG -/
namespace Go.Proofs.YtiledamgmppcmaaGreatDoor
open Go.RowKit
def namesX (x : Ex) : List ByteArray × Int := if checkX x = 0 then (addX [] x, 0) else ([], 350)
theorem rnames_do (x : Ex) (hs : x.small) (hlen : checkX x = 0 → (addX [] x).length ≤ 1000000) : Does 15 [exP x] ⟨[], []⟩ (.ret (.tup [strsP (namesX x).1, intP (namesX x).2])) ⟨[], []⟩ := by
  by_cases hc : checkX x = 0
  · have hv := (valid_check x).1 hc
    have e : namesX x = (addX [] x, 0) := by unfold namesX; rw [if_pos hc]
    rw [e]
    refine does_cut (S' := ⟨[], [rowS (addX [] x)]⟩) 0 0 ?_ (Nat.le_refl _) (Nat.le_refl _) rfl rfl
    refine does_coe (r' := .tup [.hd 0 (addX [] x).length, intP 0]) ?_ (coe_tups (coeL_cons (coe_s (toS_hd rfl)) (coeL_cons (coe_refl _) coeL_nil)))
    refine does_body Tryz.func15 rfl rfl (Nat.le_of_ble_eq_true rfl) rfl (by simp) ?_
    repeat' (first | refine q1 ?_ | refine q2 ?_ | refine wk_nil ?_ | refine wa_nil ?_ | refine pw_seq ?_ | refine pw_region ?_ | refine pw_block ?_ | refine pw_skip ?_ | refine pw_ret ?_ | refine pw_exit ?_ | refine q3 ?_ | refine q4 ?_ | refine q5 ?_ | refine q6 ?_ | refine q7 ?_ | refine q8 ?_ | refine q17 (fun h => ?_) (fun h => ?_) | refine q18 (fun h => ?_) (fun h => ?_) | refine q9 ?_ | refine q10 ?_ | refine q11 ?_ | refine q12 ?_ | refine q13 ?_ | refine q14 ?_ | refine q15 ?_ | refine q16 (fun h => ?_) (fun h => ?_) | fail)
    have hr := right_do x hs
    rw [hv] at hr
    refine wcp' hr rfl rfl rfl rfl rfl (by repeat (first | exact coeL_nil | refine coeL_cons (coe_refl _) ?_)) ?_
    repeat' (first | refine q1 ?_ | refine q2 ?_ | refine wk_nil ?_ | refine wa_nil ?_ | refine pw_seq ?_ | refine pw_region ?_ | refine pw_block ?_ | refine pw_skip ?_ | refine pw_ret ?_ | refine pw_exit ?_ | refine q3 ?_ | refine q4 ?_ | refine q5 ?_ | refine q6 ?_ | refine q7 ?_ | refine q8 ?_ | refine q17 (fun h => ?_) (fun h => ?_) | refine q18 (fun h => ?_) (fun h => ?_) | refine q9 ?_ | refine q10 ?_ | refine q11 ?_ | refine q12 ?_ | refine q13 ?_ | refine q14 ?_ | refine q15 ?_ | refine q16 (fun h => ?_) (fun h => ?_) | fail)
    refine wctN (add_do x.hgt x [] (Nat.le_refl _) (hlen hc)) rfl rfl rfl rfl (by repeat (first | exact coeL_nil | refine coeL_cons (coe_refl _) ?_)) rfl rfl ?_
    repeat' (first | refine q1 ?_ | refine q2 ?_ | refine wk_nil ?_ | refine wa_nil ?_ | refine pw_seq ?_ | refine pw_region ?_ | refine pw_block ?_ | refine pw_skip ?_ | refine pw_ret ?_ | refine pw_exit ?_ | refine q3 ?_ | refine q4 ?_ | refine q5 ?_ | refine q6 ?_ | refine q7 ?_ | refine q8 ?_ | refine q17 (fun h => ?_) (fun h => ?_) | refine q18 (fun h => ?_) (fun h => ?_) | refine q9 ?_ | refine q10 ?_ | refine q11 ?_ | refine q12 ?_ | refine q13 ?_ | refine q14 ?_ | refine q15 ?_ | refine q16 (fun h => ?_) (fun h => ?_) | fail)
    rfl
  · have hv : validX x = false := by
      cases e : validX x with
      | false => rfl
      | true => exact absurd ((valid_check x).2 e) hc
    have e : namesX x = ([], 350) := by unfold namesX; rw [if_neg hc]
    rw [e]
    refine does_coe (r' := .tup [.d (.v (.slice none 0 0)), intP 350]) ?_ (by repeat' (first | exact coeL_nil | refine coeL_cons ?_ ?_ | exact coe_nil | exact coe_refl _ | refine coe_aggs ?_ | refine coe_tups ?_))
    refine does_body Tryz.func15 rfl rfl (Nat.le_of_ble_eq_true rfl) rfl (Nat.le_refl _) ?_
    repeat' (first | refine q1 ?_ | refine q2 ?_ | refine wk_nil ?_ | refine wa_nil ?_ | refine pw_seq ?_ | refine pw_region ?_ | refine pw_block ?_ | refine pw_skip ?_ | refine pw_ret ?_ | refine pw_exit ?_ | refine q3 ?_ | refine q4 ?_ | refine q5 ?_ | refine q6 ?_ | refine q7 ?_ | refine q8 ?_ | refine q17 (fun h => ?_) (fun h => ?_) | refine q18 (fun h => ?_) (fun h => ?_) | refine q9 ?_ | refine q10 ?_ | refine q11 ?_ | refine q12 ?_ | refine q13 ?_ | refine q14 ?_ | refine q15 ?_ | refine q16 (fun h => ?_) (fun h => ?_) | fail)
    have hr := right_do x hs
    rw [hv] at hr
    refine wcp' hr rfl rfl rfl rfl rfl (by repeat (first | exact coeL_nil | refine coeL_cons (coe_refl _) ?_)) ?_
    repeat' (first | refine q1 ?_ | refine q2 ?_ | refine wk_nil ?_ | refine wa_nil ?_ | refine pw_seq ?_ | refine pw_region ?_ | refine pw_block ?_ | refine pw_skip ?_ | refine pw_ret ?_ | refine pw_exit ?_ | refine q3 ?_ | refine q4 ?_ | refine q5 ?_ | refine q6 ?_ | refine q7 ?_ | refine q8 ?_ | refine q17 (fun h => ?_) (fun h => ?_) | refine q18 (fun h => ?_) (fun h => ?_) | refine q9 ?_ | refine q10 ?_ | refine q11 ?_ | refine q12 ?_ | refine q13 ?_ | refine q14 ?_ | refine q15 ?_ | refine q16 (fun h => ?_) (fun h => ?_) | fail)
    rfl
end Go.Proofs.YtiledamgmppcmaaGreatDoor
/-! PlX -/
namespace Go.Proofs.YtiledamgmppcmaaGreatDoor
open Go.RowKit

def forceN {α : Type} (n : Nat) (f : Nat → α) : α := match n with
  | 0 => f 0
  | k + 1 => f (Nat.succ k)
theorem forceN_eq {α : Type} (n : Nat) (f : Nat → α) : forceN n f = f n := by cases n <;> rfl
def forceZ {α : Type} (z : Int) (f : Int → α) : α := match z with
  | .ofNat n => forceN n fun n => f (.ofNat n)
  | .negSucc n => forceN n fun n => f (.negSucc n)
theorem forceZ_eq {α : Type} (z : Int) (f : Int → α) : forceZ z f = f z := by cases z <;> simp only [forceZ, forceN_eq]
def forceB {α : Type} (b : Bool) (f : Bool → α) : α := match b with
  | true => f true
  | false => f false
theorem forceB_eq {α : Type} (z : Bool) (f : Bool → α) : forceB z f = f z := by cases z <;> rfl
def forceP {α : Type} (p : PV) (f : PV → α) : α := match p with
  | .d c => match c with
    | .v x => match x with
      | .int k z => forceZ z fun z => f (.d (.v (.int k z)))
      | .bool b => forceB b fun b => f (.d (.v (.bool b)))
      | x => f (.d (.v x))
    | .sl k l => f (.d (.sl k l))
  | p => f p
theorem forceP_eq {α : Type} (p : PV) (f : PV → α) : forceP p f = f p := by
  unfold forceP
  split
  · split
    · split
      · rw [forceZ_eq]
      · rw [forceB_eq]
      · rfl
    · rfl
  · rfl

def forceC {α : Type} (l : List PV) (f : List PV → α) : α := match l with
  | [] => f []
  | x :: r => forceP x fun x => forceC r fun r => f (x :: r)
theorem forceC_eq {α : Type} : ∀ (l : List PV) (f : List PV → α), forceC l f = f l
  | [], _ => rfl
  | x :: r, f => by unfold forceC; rw [forceP_eq, forceC_eq r]
def forceBs {α : Type} (l : List (List PV)) (f : List (List PV) → α) : α := match l with
  | [] => f []
  | x :: r => forceC x fun x => forceBs r fun r => f (x :: r)
theorem forceBs_eq {α : Type} : ∀ (l : List (List PV)) (f : List (List PV) → α), forceBs l f = f l
  | [], _ => rfl
  | x :: r, f => by unfold forceBs; rw [forceC_eq, forceBs_eq r]
def forceG {α β : Type} (l : List β) (f : List β → α) : α := match l with
  | [] => f []
  | x :: r => forceG r fun r => f (x :: r)
theorem forceG_eq {α β : Type} : ∀ (l : List β) (f : List β → α), forceG l f = f l
  | [], _ => rfl
  | x :: r, f => by unfold forceG; rw [forceG_eq r]
def forceTs {α : Type} (l : List RTok) (f : List RTok → α) : α := match l with
  | [] => f []
  | ⟨v, k, l, e⟩ :: r => forceN v fun v => forceG l fun l => forceTs r fun r => f (⟨v, k, l, e⟩ :: r)
theorem forceTs_eq {α : Type} : ∀ (l : List RTok) (f : List RTok → α), forceTs l f = f l
  | [], _ => rfl
  | ⟨v, k, l, e⟩ :: r, f => by unfold forceTs; rw [forceN_eq, forceG_eq, forceTs_eq r]
def forceS {α : Type} (b : Bool) (S : PS) (f : PS → α) : α := match b with
  | true => forceBs S.boxes fun bs => forceTs S.toks fun ts => f ⟨bs, ts⟩
  | false => f S
theorem forceS_eq {α : Type} (b : Bool) (S : PS) (f : PS → α) : forceS b S f = f S := by
  unfold forceS
  split
  · rw [forceBs_eq, forceTs_eq]
  · rfl

def condE (T : Nat → TyI) (F : Nat → PV) (S : PS) : Op → Bool
  | .binOp op _ x y _ => match evP F x, evP F y with
    | .d (.v (.int k a)), .d (.v (.int _ b)) => match op with
      | .add => decide (IntKind.lo k ≤ a + b) && decide (a + b ≤ IntKind.hi k)
      | .sub => decide (IntKind.lo k ≤ a - b) && decide (a - b ≤ IntKind.hi k)
      | .mul => decide (IntKind.lo k ≤ a * b) && decide (a * b ≤ IntKind.hi k)
      | .quo => decide (0 ≤ a) && decide (0 < b) && decide (a ≤ IntKind.hi k)
      | .rem => decide (0 ≤ a) && decide (0 < b)
      | _ => true
    | .d (.v (.string a)), .d (.v (.string b)) => Nat.ble (a.size + b.size) 9223372036854775807
    | _, _ => true
  | .unOp _ _ x => match evP F x with
    | .d (.v (.int k a)) => decide (IntKind.lo k ≤ -a) && decide (-a ≤ IntKind.hi k)
    | _ => true
  | .convert _ dst x => match evP F x with
    | .d (.v (.int _ a)) => decide (IntKind.lo (T dst).ik ≤ a) && decide (a ≤ IntKind.hi (T dst).ik)
    | _ => true
  | .indexAddr t x y => match evP F x, evP F y with
    | .ptr _ _, .d (.v (.int _ j)) => decide (0 ≤ j) && decide (j < (T t).len)
    | .bsl _ _ _ n _, .d (.v (.int _ j)) => decide (0 ≤ j) && decide (j < n)
    | _, _ => true
  | .index _ x y => match evP F x, evP F y with
    | .d (.v (.string s)), .d (.v (.int _ j)) => decide (0 ≤ j) && decide (j < s.size)
    | _, _ => true
  | .slice t x lo hi _ => match evP F x with
    | .d (.v (.string s)) => match loN F lo, hiN F s.size hi with
      | some j, some h => decide (0 ≤ j) && decide (j ≤ h) && decide (h ≤ s.size)
      | _, _ => true
    | p => match S.toS (T t).ek p with
      | some l => match loN F lo, hiN F l.length hi with
        | some j, some h => decide (0 ≤ j) && decide (j ≤ h) && decide (h ≤ l.length)
        | _, _ => true
      | none => true
  | .call c => match c with
    | ⟨.builtin .append, ⟨[x, y]⟩, ⟨[t, _]⟩⟩ => match evP F x with
      | .hd tk _ => match S.toks[tk]? with
        | some K => match S.toS (T t).ek (evP F y) with
          | some news => Nat.ble ((K.l.length + news.length) * (T t).eb) 140737488355328 && Nat.ble (K.l.length + news.length) 9223372036854775807
          | none => true
        | none => true
      | _ => true
    | _ => true
  | _ => true

section
variable {T : Nat → TyI} {ok : Nat → Bool} {F : Nat → PV} {S S' : PS} {C : Prop} {r : PV}
theorem stId_true {p : PV} (h : stId S p = some (C, r, S')) : C := by
  unfold stId at h
  split at h <;> (cases h; trivial)
theorem condE_bin {op : BinOp} {t yt : TypeId} {x y : Operand} (h : stBin T ok F S op t x y = some (C, r, S')) (hc : condE T F S (.binOp op t x y yt) = true) : C := by
  unfold stBin at h
  simp only [Bool.cond_eq_ite] at h
  simp only [condE] at hc
  split at h
  · rename_i k a k' b hx hy
    rw [hx, hy] at hc
    dsimp only at hc
    split at h
    · split at h <;> first | (cases h; simp only [Bool.and_eq_true, decide_eq_true_eq] at hc; first | exact hc | exact trivial | exact ⟨hc.1.1, hc.1.2, hc.2⟩) | cases h
    · cases h
  · rename_i a b hx hy
    rw [hx, hy] at hc
    dsimp only at hc
    split at h <;> first | (cases h; first | exact trivial | exact Nat.le_of_ble_eq_true hc) | cases h
  · split at h
    · split at h <;> first | (cases h; trivial) | cases h
    · cases h
  · cases h
theorem condE_slice {t : TypeId} {x : Operand} {lo hi m : Option Operand} (h : stSlice T ok F S t x lo hi = some (C, r, S')) (hc : condE T F S (.slice t x lo hi m) = true) : C := by
  unfold stSlice at h
  simp only [condE] at hc
  cases hk : ok t with
  | false => rw [hk] at h; cases h
  | true =>
    rw [hk] at h
    simp only [cond_true] at h
    split at h
    · rename_i s hx
      rw [hx] at hc
      dsimp only at hc
      cases hb : Nat.beq (T t).kind 1 with
      | false => rw [hb] at h; cases h
      | true =>
        rw [hb] at h
        simp only [cond_true] at h
        split at h
        · rename_i j k hj hh
          rw [hj, hh] at hc
          cases h
          simp only [Bool.and_eq_true, decide_eq_true_eq] at hc
          exact ⟨hc.1.1, hc.1.2, hc.2⟩
        · cases h
    · rename_i p hx
      cases hb : Nat.beq (T t).kind 2 with
      | false => rw [hb] at h; cases h
      | true =>
        rw [hb] at h
        simp only [cond_true] at h
        split at h
        · rename_i l hl
          split at h
          · rename_i j k hj hh
            split at hc
            · rename_i s hs; exact absurd hs (hx s)
            · rw [hl] at hc
              dsimp only at hc
              rw [hj, hh] at hc
              cases h
              simp only [Bool.and_eq_true, decide_eq_true_eq] at hc
              exact ⟨hc.1.1, hc.1.2, hc.2⟩
          · cases h
        · cases h
theorem condE_len {t : TypeId} {x : Operand} (h : stLen T ok F S t x = some (C, r, S')) : C := by
  unfold stLen at h
  simp only [Bool.cond_eq_ite] at h
  repeat' (first | exact stId_true h | (cases h; trivial) | cases h | split at h)
theorem condE_load {t : TypeId} {x : Operand} (h : stLoad T ok F S t x = some (C, r, S')) : C := by
  unfold stLoad at h
  simp only [Bool.cond_eq_ite] at h
  repeat' (first | exact stId_true h | (cases h; trivial) | cases h | split at h)
theorem condE_loadA {t : TypeId} {x : Operand} (h : stLoadA T ok F S t x = some (C, r, S')) : C := by
  unfold stLoadA at h
  simp only [Bool.cond_eq_ite] at h
  repeat' (first | exact stId_true h | (cases h; trivial) | cases h | split at h)
theorem condE_field {s : TypeId} {x : Operand} {f : Nat} (h : stField T ok F S s x f = some (C, r, S')) : C := by
  unfold stField at h
  simp only [Bool.cond_eq_ite] at h
  repeat' (first | exact stId_true h | (cases h; trivial) | cases h | split at h)
theorem condE_indexA {t : TypeId} {x y : Operand} (h : stIndexA T ok F S t x y = some (C, r, S')) (hc : condE T F S (.indexAddr t x y) = true) : C := by
  unfold stIndexA at h
  simp only [condE] at hc
  cases hk : ok t with
  | false => rw [hk] at h; cases h
  | true =>
    rw [hk] at h
    simp only [cond_true] at h
    split at h
    · rename_i hx hy
      rw [hx, hy] at hc
      cases hb : Nat.beq (T t).kind 3 <;> rw [hb] at h <;> cases h
      simpa using hc
    · rename_i hx hy
      rw [hx, hy] at hc
      cases hb : Nat.beq (T t).kind 2 <;> rw [hb] at h <;> cases h
      simpa using hc
    · cases h
theorem condE_indexStr {t : TypeId} {x y : Operand} (h : stIndexStr T ok F S t x y = some (C, r, S')) (hc : condE T F S (.index t x y) = true) : C := by
  unfold stIndexStr at h
  simp only [condE] at hc
  cases hk : (ok t && Nat.beq (T t).kind 1) with
  | false => rw [hk] at h; cases h
  | true =>
    rw [hk] at h
    simp only [cond_true] at h
    split at h
    · rename_i hx hy
      rw [hx, hy] at hc
      cases h
      simpa using hc
    · cases h
theorem condE_conv {src dst : TypeId} {x : Operand} (h : stConv T ok F S src dst x = some (C, r, S')) (hc : condE T F S (.convert src dst x) = true) : C := by
  unfold stConv at h
  simp only [condE] at hc
  cases hk : (ok src && ok dst) with
  | false => rw [hk] at h; cases h
  | true =>
    rw [hk] at h
    simp only [cond_true] at h
    split at h
    · rename_i hx
      rw [hx] at hc
      cases hb : Nat.beq (T dst).kind 5 <;> rw [hb] at h <;> cases h
      simpa using hc
    · cases hb : Nat.beq (T dst).kind 1 <;> rw [hb] at h <;> cases h; trivial
    · cases h
theorem condE_un {op : UnOp} {t : TypeId} {x : Operand} (h : stUn F S op x = some (C, r, S')) (hc : condE T F S (.unOp op t x) = true) : C := by
  unfold stUn at h
  simp only [condE] at hc
  split at h
  · cases h; trivial
  · rename_i hx
    rw [hx] at hc
    cases h
    simpa using hc
  · cases h
theorem condE_call {c : Call} (h : stCall T ok F S c = some (C, r, S')) : C := by
  unfold stCall at h
  split at h
  · exact condE_len h
  · simp only [Bool.cond_eq_ite] at h
    repeat' (first | (cases h; trivial) | cases h | split at h)
  · simp only [Bool.cond_eq_ite] at h
    repeat' (first | (cases h; trivial) | cases h | split at h)
  · cases h
theorem condE_A {op : Op} (h : stepA T ok F S op = some (C, r, S')) (hc : condE T F S op = true) : C := by
  unfold stepA at h
  split at h
  · exact stId_true h
  · exact stId_true h
  · split at h
    · split at h <;> exact stId_true h
    · cases h
  · exact condE_load h
  · split at h <;> first | (cases h; trivial) | cases h
  · exact condE_bin h hc
  · exact condE_un h hc
  · exact condE_conv h hc
  · exact condE_slice h hc
  · exact condE_field h
  · exact condE_indexA h hc
  · exact condE_indexStr h hc
  · split at h
    · split at h
      · exact stId_true h
      · cases h
    · cases h
  · exact condE_call h
  · cases h
theorem condE_append {t : TypeId} {x y : Operand} {t' : TypeId} (h : stAppend T ok F S t x y = some (C, r, S')) (hc : condE T F S (.call ⟨.builtin .append, ⟨[x, y]⟩, ⟨[t, t']⟩⟩) = true) : C := by
  unfold stAppend at h
  simp only [condE] at hc
  cases hk : (ok t && Nat.beq (T t).kind 2) with
  | false => rw [hk] at h; cases h
  | true =>
    rw [hk] at h
    simp only [cond_true] at h
    split at h
    · rename_i tk n hx
      rw [hx] at hc
      dsimp only at hc
      split at h
      · rename_i K hK
        rw [hK] at hc
        dsimp only at hc
        cases hb : (Nat.beq K.ver n && Nat.beq K.k (T t).ek && Nat.beq K.e (T t).elem) with
        | false => rw [hb] at h; cases h
        | true =>
          rw [hb] at h
          simp only [cond_true] at h
          split at h
          · rename_i news hn
            rw [hn] at hc
            cases h
            simp only [Bool.and_eq_true] at hc
            exact ⟨Nat.le_of_ble_eq_true hc.1, Nat.le_of_ble_eq_true hc.2⟩
          · cases h
      · cases h
    · cases h
theorem condE_B {op : Op} (h : stepB T ok F S op = some (C, r, S')) (hc : condE T F S op = true) : C := by
  unfold stepB at h
  split at h
  · rename_i t
    cases hk : (ok t && (T t).zero.all (·.oneCell')) <;> rw [hk] at h <;> cases h; trivial
  · split at h
    · rename_i l _
      cases hk : allCell l <;> rw [hk] at h <;> cases h; trivial
    · cases h
  · unfold stBuild at h
    simp only [Bool.cond_eq_ite] at h
    split at h
    · split at h
      · cases h; trivial
      · cases h
    · cases h
  · unfold stBuildSlice at h
    simp only [Bool.cond_eq_ite] at h
    split at h
    · split at h
      · split at h
        · cases h; trivial
        · cases h
      · cases h
    · cases h
  · exact condE_loadA h
  · unfold stStore at h
    simp only [Bool.cond_eq_ite] at h
    repeat' (first | (cases h; trivial) | cases h | split at h)
  · cases h; trivial
  · rename_i t x
    cases hk : (ok t && Nat.beq (T t).kind 4) with
    | false => rw [hk] at h; cases h
    | true =>
      rw [hk] at h
      simp only [cond_true] at h
      split at h
      · split at h
        · cases h; trivial
        · cases h
      · cases h
  · split at h
    · rename_i x y t t'
      cases hb : Nat.beq t t' with
      | false => rw [hb] at h; cases h
      | true => rw [hb] at h; exact condE_append h hc
    · cases h
  · cases h
/-- What 'stepA' does leaves the state as it was. -/
theorem stId_same {p : PV} (h : stId S p = some (C, r, S')) : S' = S ∧ r = p := by
  unfold stId at h
  split at h <;> (cases h; exact ⟨rfl, rfl⟩)
theorem stepA_same {op : Op} (h : stepA T ok F S op = some (C, r, S')) : S' = S := by
  unfold stepA at h
  split at h
  · exact (stId_same h).1
  · exact (stId_same h).1
  · split at h
    · split at h <;> exact (stId_same h).1
    · cases h
  · unfold stLoad at h
    try simp only [Bool.cond_eq_ite] at h
    repeat' (first | exact (stId_same h).1 | (cases h; rfl) | cases h | split at h)
  · repeat' (first | (cases h; rfl) | cases h | split at h)
  · unfold stBin at h
    try simp only [Bool.cond_eq_ite] at h
    repeat' (first | (cases h; rfl) | cases h | split at h)
  · unfold stUn at h
    try simp only [Bool.cond_eq_ite] at h
    repeat' (first | (cases h; rfl) | cases h | split at h)
  · unfold stConv at h
    try simp only [Bool.cond_eq_ite] at h
    repeat' (first | (cases h; rfl) | cases h | split at h)
  · unfold stSlice at h
    try simp only [Bool.cond_eq_ite] at h
    repeat' (first | (cases h; rfl) | cases h | split at h)
  · unfold stField at h
    try simp only [Bool.cond_eq_ite] at h
    repeat' (first | (cases h; rfl) | cases h | split at h)
  · unfold stIndexA at h
    try simp only [Bool.cond_eq_ite] at h
    repeat' (first | (cases h; rfl) | cases h | split at h)
  · unfold stIndexStr at h
    try simp only [Bool.cond_eq_ite] at h
    repeat' (first | (cases h; rfl) | cases h | split at h)
  · repeat' (first | exact (stId_same h).1 | (cases h; rfl) | cases h | split at h)
  · unfold stCall stLen at h
    try simp only [Bool.cond_eq_ite] at h
    repeat' (first | (cases h; rfl) | cases h | split at h)
  · cases h
/-- Operations that turn the state. -/
def turns : Op → Bool
  | .store .. | .alloc .. | .box .. => true
  | .call { callee := .builtin .append, .. } => true
  | _ => false
theorem stepB_same {op : Op} (ht : turns op = false) (h : stepB T ok F S op = some (C, r, S')) : S' = S := by
  unfold stepB at h
  split at h
  · cases ht
  · cases ht
  · unfold stBuild at h
    try simp only [Bool.cond_eq_ite] at h
    repeat' (first | (cases h; rfl) | cases h | split at h)
  · unfold stBuildSlice at h
    try simp only [Bool.cond_eq_ite] at h
    repeat' (first | (cases h; rfl) | cases h | split at h)
  · unfold stLoadA at h
    try simp only [Bool.cond_eq_ite] at h
    repeat' (first | (cases h; rfl) | cases h | split at h)
  · cases ht
  · cases h; rfl
  · simp only [Bool.cond_eq_ite] at h
    repeat' (first | (cases h; rfl) | cases h | split at h)
  · split at h
    · cases ht
    · cases h
  · cases h
end
end Go.Proofs.YtiledamgmppcmaaGreatDoor
/-! PlEq -/
namespace Go.Proofs.YtiledamgmppcmaaGreatDoor
open Go.RowKit
section
variable (P : Program)
def eqF1 (t : TypeId) : PV → PV → Option Bool
  | .d (.v (.int k a)), .d (.v (.int k' b)) => match P.underlying t with
    | some (.int _) => bif k == k' then some (decide (a = b)) else none
    | _ => none
  | .d (.v (.string a)), .d (.v (.string b)) => match P.underlying t with
    | some .string => some (decide (a = b))
    | _ => none
  | .d (.v (.bool a)), .d (.v (.bool b)) => match P.underlying t with
    | some .bool => some (decide (a = b))
    | _ => none
  | _, _ => none
def eqFs (l l' : List PV) : List Field → Option Bool
  | [] => some true
  | f :: fs => bif f.name == "_" then none else
    match l[f.offset]? with
    | some p => match l'[f.offset]? with
      | some q => match eqF1 P f.type p q with
        | some true => eqFs l l' fs
        | some false => some false
        | none => none
      | none => none
    | none => none
def eqAg (t : TypeId) (l l' : List PV) : Option Bool := match P.underlying t with
  | some (.struct fs) => bif P.stoodInHeld t || P.eqGuardType P.depth t then none else eqFs P l l' fs.toList
  | _ => none
end
section
variable {P : Program} {K : Kx} {w : World}
theorem eqF1_run {t : TypeId} {p q : PV} {u v : Value} {b : Bool} (h : eqF1 P t p q = some b) (hp : Rep K w p u) (hq : Rep K w q v) (d : Nat) : (isAgg t).run P w = .ok false w ∧ (Op.equalIn (d + 1) t u v).run P w = .ok b w := by
  unfold eqF1 at h
  split at h
  · rename_i k a k' b'
    rw [rep_v hp, rep_v hq]
    split at h
    · rename_i kk hu
      cases hk : (k == k') with
      | false => rw [hk] at h; cases h
      | true =>
        rw [hk] at h
        cases h
        have e : k = k' := by cases k <;> cases k' <;> first | rfl | cases hk
        subst e
        refine ⟨by simp [isAgg, underlying, program, go_sem, hu, Sem.run], ?_⟩
        rw [run_equalIn_int w d t k kk a b' hu]; rfl
    · cases h
  · rename_i a b'
    rw [rep_v hp, rep_v hq]
    split at h
    · rename_i hu
      cases h
      refine ⟨by simp [isAgg, underlying, program, go_sem, hu, Sem.run], ?_⟩
      rw [run_equalIn_string w d t a b' hu, str_beq]
    · cases h
  · rename_i a b'
    rw [rep_v hp, rep_v hq]
    split at h
    · rename_i hu
      cases h
      refine ⟨by simp [isAgg, underlying, program, go_sem, hu, Sem.run], ?_⟩
      rw [run_equalIn_bool' w d t a b' hu]; cases a <;> cases b' <;> rfl
    · cases h
  · cases h
theorem eqFs_run {l l' : List PV} {cs cs' : List Value} (h1 : RepL K w l cs) (h2 : RepL K w l' cs') (d : Nat) : ∀ {fs : List Field} {b : Bool}, eqFs P l l' fs = some b → (Op.eqFields (d + 1) cs.toArray cs'.toArray fs).run P w = .ok b w
  | [], b, h => by cases h; rfl
  | f :: fs, b, h => by
    unfold eqFs at h
    cases hn : (f.name == "_") with
    | true => rw [hn] at h; cases h
    | false =>
      rw [hn] at h
      simp only [cond_false] at h
      have hne : f.name ≠ "_" := by intro e; rw [e] at hn; cases hn
      split at h
      · rename_i p hp
        split at h
        · rename_i q hq
          obtain ⟨u, hu, ru⟩ := h1.get hp
          obtain ⟨v, hv, rv⟩ := h2.get hq
          have key : ∀ b', eqF1 P f.type p q = some b' → (Op.eqFields (d + 1) cs.toArray cs'.toArray (f :: fs)).run P w = ((if (!b') = true then (pure false : Sem Bool) else Op.eqFields (d + 1) cs.toArray cs'.toArray fs)).run P w := fun b' he => by
            obtain ⟨e1, e2⟩ := eqF1_run he ru rv d
            have pu : (part f.type cs.toArray f.offset).run P w = .ok u w := by simp only [part, Sem.run_bind, e1, Result.andThen_ok, Bool.false_eq_true, if_false]; simp [hu]
            have pv : (part f.type cs'.toArray f.offset).run P w = .ok v w := by simp only [part, Sem.run_bind, e1, Result.andThen_ok, Bool.false_eq_true, if_false]; simp [hv]
            simp only [Op.eqFields, if_pos hne, Sem.run_bind, pu, pv, e2, Result.andThen_ok]
          split at h
          · rename_i he
            rw [key true he]
            exact eqFs_run h1 h2 d h
          · rename_i he
            cases h
            rw [key false he]; rfl
          · cases h
        · cases h
      · cases h
section
variable {o : Oper} {F : Nat → PV} {S : PS} {ty yt : TypeId} {x y : Operand} {l l' : List PV} {b : Bool}
theorem ops_binA {op : BinOp} {z : Value} (ho : o.op = .binOp op ty x y yt) (hx : evP F x = .agg l) (hy : evP F y = .agg l') (hz : z.oneCell' = true)
    (hrun : ∀ (K : Kx) (w : World) (cs cs' : List Value), RepL K w l cs → RepL K w l' cs' → (do eqGuard op ty x y (.agg cs.toArray) (.agg cs'.toArray); binOp op ty (.agg cs.toArray) (.agg cs'.toArray) : Sem Value).run P w = .ok z w) : OpS P o F S (.d (.v z)) S :=
  OpS.pure fun K w ρ hI h => by
    have h1 := h x (by simp [ho, Op.operands])
    have h2 := h y (by simp [ho, Op.operands])
    rw [hx] at h1
    rw [hy] at h2
    simp only [Rep] at h1 h2
    obtain ⟨cs, e1, r1⟩ := h1
    obtain ⟨cs', e2, r2⟩ := h2
    have h3 := hrun K w cs cs' r1 r2
    refine ⟨z, ?_, rep_mk hz⟩
    simp only [execOp, ho, e1, e2]
    simp only [Sem.run_bind] at h3 ⊢
    rw [h3]; rfl
theorem eqAg_run (h : eqAg P ty l l' = some b) {cs cs' : List Value} (h1 : RepL K w l cs) (h2 : RepL K w l' cs') (op : BinOp) : (eqGuard op ty x y (.agg cs.toArray) (.agg cs'.toArray)).run P w = .ok () w ∧ (Op.equalIn 10000 ty (.agg cs.toArray) (.agg cs'.toArray)).run P w = .ok b w := by
  unfold eqAg at h
  split at h
  · rename_i fs hu
    cases hb : (P.stoodInHeld ty || P.eqGuardType P.depth ty) with
    | true => rw [hb] at h; cases h
    | false =>
      rw [hb] at h
      simp only [cond_false] at h
      simp only [Bool.or_eq_false_iff] at hb
      refine ⟨run_eqGuard_agg w op ty x y _ _ hb.2, ?_⟩
      have hfs : P.fieldsOf ty = fs := by unfold Program.fieldsOf; rw [hu]
      rw [run_equalIn_struct w 9999 ty _ _ (by rw [hfs]; exact hu) hb.1, hfs]
      exact eqFs_run h1 h2 9998 h
  · cases h
theorem opb_eqlA (ho : o.op = .binOp .eql ty x y yt) (hx : evP F x = .agg l) (hy : evP F y = .agg l') (h : eqAg P ty l l' = some b) : OpS P o F S (.d (.v (.bool b))) S :=
  ops_binA ho hx hy rfl fun K w cs cs' h1 h2 => by
    obtain ⟨e1, e2⟩ := eqAg_run (x := x) (y := y) h h1 h2 .eql
    rw [Sem.run_bind, e1, Result.andThen_ok, run_eql_struct, e2]; rfl
theorem opb_neqA (ho : o.op = .binOp .neq ty x y yt) (hx : evP F x = .agg l) (hy : evP F y = .agg l') (h : eqAg P ty l l' = some b) : OpS P o F S (.d (.v (.bool (!b)))) S :=
  ops_binA ho hx hy rfl fun K w cs cs' h1 h2 => by
    obtain ⟨e1, e2⟩ := eqAg_run (x := x) (y := y) h h1 h2 .neq
    rw [Sem.run_bind, e1, Result.andThen_ok, run_neq_struct, e2]; rfl
end
end
end Go.Proofs.YtiledamgmppcmaaGreatDoor
/-! PlY -/
namespace Go.Proofs.YtiledamgmppcmaaGreatDoor
open Go.RowKit

def putL (N : Nat) (dst : Option Tmp) (r : PV) (L : List (Nat × PV)) : List (Nat × PV) :=
  match dst with
  | none => L
  | some d => bif Nat.blt d N then (d, r) :: L else L
theorem putL_eq {N : Nat} {dst : Option Tmp} {r : PV} {L : List (Nat × PV)} : putP N dst r (fr L) = fr (putL N dst r L) := by
  cases dst with
  | none => rfl
  | some d =>
    funext t
    simp only [putP, putL]
    cases h : Nat.blt d N with
    | true => simp only [cond_true, fr, look, Bool.and_true]
    | false => simp only [cond_false, Bool.and_false]
def ddL : List Nat → List (Nat × PV) → List (Nat × PV)
  | _, [] => []
  | seen, (i, p) :: r => bif seen.any (Nat.beq i) then ddL seen r else (i, p) :: ddL (i :: seen) r
theorem ddL_mem : ∀ (seen : List Nat) (L : List (Nat × PV)), ∀ q ∈ ddL seen L, q.1 ∉ seen ∧ look q.1 L = q.2
  | _, [], q, h => by simp [ddL] at h
  | seen, (i, p) :: r, q, h => by
    simp only [ddL] at h
    cases hs : seen.any (Nat.beq i) with
    | true =>
      rw [hs] at h
      obtain ⟨h1, h2⟩ := ddL_mem seen r q h
      refine ⟨h1, ?_⟩
      simp only [look]
      cases hb : Nat.beq q.1 i with
      | false => exact h2
      | true =>
        have := Nat.eq_of_beq_eq_true hb
        rw [List.any_eq_true] at hs
        obtain ⟨j, hj, hj2⟩ := hs
        have := Nat.eq_of_beq_eq_true hj2
        subst this
        exact absurd hj (by rw [← ‹q.1 = i›]; exact h1)
    | false =>
      rw [hs] at h
      simp only [cond_false, List.mem_cons] at h
      rcases h with rfl | h
      · refine ⟨fun hm => ?_, by simp [look]⟩
        have : seen.any (Nat.beq i) = true := List.any_eq_true.2 ⟨i, hm, by simp⟩
        rw [hs] at this; cases this
      · obtain ⟨h1, h2⟩ := ddL_mem (i :: seen) r q h
        refine ⟨fun hm => h1 (List.mem_cons_of_mem _ hm), ?_⟩
        simp only [look]
        cases hb : Nat.beq q.1 i with
        | false => exact h2
        | true => exact absurd (by rw [Nat.eq_of_beq_eq_true hb]; exact List.mem_cons_self) h1
theorem ddL_le (L : List (Nat × PV)) : FrLe (ddL [] L) (fr L) := fun q h => (ddL_mem [] L q h).2
def argsL : Nat → List PV → List (Nat × PV)
  | _, [] => []
  | n, p :: r => (n, p) :: argsL (n + 1) r
theorem argsL_le : ∀ (args : List PV) (n : Nat) (F : Nat → PV), (∀ t, F (n + t) = args0 args t) → FrLe (argsL n args) F
  | [], _, _, _ => frle_nil
  | p :: r, n, F, h => frle_cons (h 0) (argsL_le r (n + 1) F fun t => by have := h (t + 1); rw [show n + 1 + t = n + (t + 1) by omega]; exact this)

mutual
def dataP (S : PS) : PV → Option PV
  | .d c => some (.d c)
  | .ep l => some (.ep l)
  | .un => some .un
  | .any => some .any
  | .hd t n => match S.toD (.hd t n) with
    | some c => some (.d c)
    | none => none
  | .agg l => match dataL S l with
    | some l' => some (.agg l')
    | none => none
  | .tup l => match dataL S l with
    | some l' => some (.tup l')
    | none => none
  | .fn f l => match dataL S l with
    | some l' => some (.fn f l')
    | none => none
  | _ => none
def dataL (S : PS) : List PV → Option (List PV)
  | [] => some []
  | p :: r => match dataP S p with
    | some p' => match dataL S r with
      | some r' => some (p' :: r')
      | none => none
    | none => none
end
theorem coe_fns {S : PS} {f : Nat} {l l' : List PV} (h : CoeL S l l') : Coe S (.fn f l) (.fn f l') := fun K w u hI hr => by
  simp only [Rep] at hr ⊢
  obtain ⟨cs, h1, h2⟩ := hr
  exact ⟨cs, h1, CoeL.rep hI h h2⟩
mutual
theorem dataP_ok {S : PS} : ∀ (p q : PV), dataP S p = some q → Coe S p q ∧ q.lt 0 0 = true
  | .d c, q, h => by simp only [dataP] at h; cases h; exact ⟨coe_refl _, rfl⟩
  | .ep l, q, h => by simp only [dataP] at h; cases h; exact ⟨coe_refl _, rfl⟩
  | .un, q, h => by simp only [dataP] at h; cases h; exact ⟨coe_refl _, rfl⟩
  | .any, q, h => by simp only [dataP] at h; cases h; exact ⟨coe_refl _, rfl⟩
  | .hd t n, q, h => by
    simp only [dataP] at h
    split at h
    · rename_i c hc; cases h; exact ⟨coe_d hc, rfl⟩
    · cases h
  | .agg l, q, h => by
    simp only [dataP] at h
    split at h
    · rename_i l' hl; cases h; have := dataL_ok l l' hl; exact ⟨coe_aggs this.1, this.2⟩
    · cases h
  | .tup l, q, h => by
    simp only [dataP] at h
    split at h
    · rename_i l' hl; cases h; have := dataL_ok l l' hl; exact ⟨coe_tups this.1, this.2⟩
    · cases h
  | .fn f l, q, h => by
    simp only [dataP] at h
    split at h
    · rename_i l' hl; cases h; have := dataL_ok l l' hl; exact ⟨coe_fns this.1, this.2⟩
    · cases h
  | .ptr _ _, q, h => by simp only [dataP] at h; cases h
  | .bsl _ _ _ _ _, q, h => by simp only [dataP] at h; cases h
theorem dataL_ok {S : PS} : ∀ (l l' : List PV), dataL S l = some l' → CoeL S l l' ∧ PV.ltL 0 0 l' = true
  | [], l', h => by simp only [dataL] at h; cases h; exact ⟨coeL_nil, rfl⟩
  | p :: r, l', h => by
    simp only [dataL] at h
    split at h
    · rename_i p' hp
      split at h
      · rename_i r' hr
        cases h
        have h1 := dataP_ok p p' hp
        have h2 := dataL_ok r r' hr
        exact ⟨coeL_cons h1.1 h2.1, by simp only [PV.ltL, h1.2, h2.2, Bool.and_self]⟩
      · cases h
    · cases h
end

section
variable {P : Program} {o : Oper} {F : Nat → PV} {S S' : PS} {c : Operand} {al : Array Operand} {ats : Array TypeId} {f : Nat} {caps args : List PV} {r : PV} {x : Value}
theorem ops_callW (ho : o.op = .call { callee := .value c, args := al, argTypes := ats }) (he : Ent P f) (hc : evP F c = .fn f caps) (ha : CoeL S (al.toList.map (evP F) ++ caps) args) (hev : EvC P f args S (.ret r) S') : OpS P o F S r S' := by
  intro ro mm K w a next Q hI hx hn
  obtain ⟨vs, h1, h2⟩ := run_call ho he hc hx
  have h3 := CoeL.rep hI ha h2
  refine wpIn_ent h1 ((hev K w vs hI h3).mono ?_)
  rintro e w' ⟨K', hs, hI', v, rfl, hr⟩
  exact hn v w' K' hs hI' hr
theorem opx_callW (ho : o.op = .call { callee := .value c, args := al, argTypes := ats }) (he : Ent P f) (hc : evP F c = .fn f caps) (ha : CoeL S (al.toList.map (evP F) ++ caps) args) (hev : EvC P f args S (.panic x) S') : OpX P o F S x S' := by
  intro ro mm K w a next Q hI hx hn
  obtain ⟨vs, h1, h2⟩ := run_call ho he hc hx
  have h3 := CoeL.rep hI ha h2
  refine wpIn_ent h1 ((hev K w vs hI h3).mono ?_)
  rintro e w' ⟨K', hs, hI', hr⟩
  simp only [OutRep] at hr
  subst hr
  exact hn w' K' hs hI'
theorem opx_pure (ho : o.op = .call { callee := .value c, args := al, argTypes := ats }) (he : Ent P f) (hc : evP F c = .fn f caps) (hlt : PV.ltL 0 0 args = true) (ha : CoeL S (al.toList.map (evP F) ++ caps) args) (hev : EvC P f args ⟨[], []⟩ (.panic x) ⟨[], []⟩) : OpX P o F S x S := by
  have hren : PV.renL (fbN []) (ftN [] S.toks.length) args = args := renL_id args hlt
  have h := opx_call (S := S) (S0 := ⟨[], []⟩) (S0' := ⟨[], []⟩) (ids := []) (tids := []) ho he hc passes_none (by rw [hren]; exact ha) hlt rfl hev
  have e : S.after [] [] ⟨[], []⟩ = S := by
    cases S; simp [PS.after, updL]
  rw [e] at h
  exact h
end
theorem does_cutX {f : Nat} {args : List PV} {S S' : PS} {x : Value} (n m : Nat) (h : Does f args S (.panic x) S') (hn : S.boxes.length ≤ n) (hm : S.toks.length ≤ m) (hall : (S'.boxes.take n).all (fun c => PV.ltL n m c) = true) : Does f args S (.panic x) (S'.cut n m) :=
  ⟨h.1, fun K w vs hI hA => (h.2 K w vs hI hA).mono fun _ _ ⟨K', h1, h2, he⟩ => ⟨K'.cut n m, step_cut hI h1 hn hm, h2.cut hall, he⟩⟩
/-- A body that leaves all it has made. -/
theorem ev_bodyN {P : Program} {f : Nat} {fn : Func} {c : Code} {args : List PV} {S S' : PS} {r : PV} (hf : P.funcs[f]? = some fn) (hb : fn.body = some c) (hn : args.length ≤ fn.ntmps)
    (h : PW P fn.ntmps c (fun e F S1 => (e = .normal ∨ e = .ret) ∧ S1 = S' ∧ ∃ ps, ResOks P F S1 fn.results.toList ps ∧ resV ps = r) (args0 args) S) : EvC P f args S (.ret r) S' := by
  intro K w vs hI hA
  have hl := hA.length
  refine calls_of_wp hf hb (wp_mono (h.run0 K w { tmps := vs.toArray ++ Array.replicate (fn.ntmps - vs.toArray.size) undef, defers := [] } hI ⟨by simp; omega, fun t => ?_⟩) ?_)
  · have := args0_rep args vs (fn.ntmps - vs.toArray.size) t hA
    rw [Array.getD_eq_getD_getElem?]
    rw [List.getD_eq_getElem?_getD] at this
    rw [← Array.getElem?_toList]
    simpa using this
  · intro e a' w' hq
    obtain ⟨K', F', S1, h1, h2, h3, h4, he, rfl, ps, h8, rfl⟩ := hq
    obtain ⟨v, h10, h11⟩ := run_results h2 h3 h8
    have hpost : ∃ K2, Step K K2 w w' ∧ Inv K2 S1 w' ∧ OutRep K2 w' (.ret (resV ps)) (.returned v) := ⟨_, h1, h2, v, rfl, h11⟩
    rcases he with rfl | rfl
    · exact ⟨h4, v, h10, hpost⟩
    · exact ⟨h4, v, h10, hpost⟩
theorem ev_bodyX {P : Program} {f : Nat} {fn : Func} {c : Code} {args : List PV} {S S' : PS} {x : Value} (hf : P.funcs[f]? = some fn) (hb : fn.body = some c) (hn : args.length ≤ fn.ntmps)
    (h : PW P fn.ntmps c (fun e _ S1 => e = .panic [{ v := x, recovered := false }] ∧ S1 = S') (args0 args) S) : EvC P f args S (.panic x) S' := by
  intro K w vs hI hA
  have hl := hA.length
  refine calls_of_wp hf hb (wp_mono (h.run0 K w { tmps := vs.toArray ++ Array.replicate (fn.ntmps - vs.toArray.size) undef, defers := [] } hI ⟨by simp; omega, fun t => ?_⟩) ?_)
  · have := args0_rep args vs (fn.ntmps - vs.toArray.size) t hA
    rw [Array.getD_eq_getD_getElem?]
    rw [List.getD_eq_getElem?_getD] at this
    rw [← Array.getElem?_toList]
    simpa using this
  · intro e a' w' hq
    obtain ⟨K', F', S1, h1, h2, h3, h4, rfl, rfl⟩ := hq
    exact ⟨h4, _, h1, h2, rfl⟩

inductive ORes where
  | val (r : PV) (S : PS)
  | bang (c : Value) (S : PS)
def ORes.ok (P : Program) (o : Oper) (F : Nat → PV) (S : PS) : ORes → Prop
  | .val r S' => OpS P o F S r S'
  | .bang c S' => OpX P o F S c S'

/-- What 'stepA' and 'stepB' do not say. -/
noncomputable def stepX (F : Nat → PV) (S : PS) : Op → Option PV
  | .indexAddr t x y => bif tyOks t && Nat.beq (tyi t).kind 2 then
      match S.toS (tyi t).ek (evP F x), evP F y with
      | some l, .d (.v (.int _ j)) => bif decide (0 ≤ j) then
          match l[j.toNat]? with
          | some e => some (.ep e)
          | none => none
        else none
      | _, _ => none
    else none
  | .index t x y => bif tyOks t && Nat.beq (tyi t).kind 3 && tyOks (tyi t).elem then
      match evP F x, evP F y with
      | .agg l, .d (.v (.int _ j)) => bif decide (0 ≤ j) && decide (j < (tyi t).len) then
          bif (tyi (tyi t).elem).isRow then
            bif Nat.ble (j.toNat * (tyi (tyi t).elem).size + (tyi (tyi t).elem).size) l.length then some (.agg ((l.drop (j.toNat * (tyi (tyi t).elem).size)).take (tyi (tyi t).elem).size)) else none
          else match l[j.toNat * (tyi (tyi t).elem).size]? with
            | some p => some p
            | none => none
        else none
      | _, _ => none
    else none
  | .binOp op ty x y _ => match evP F x, evP F y with
    | .d (.v (.int k a)), .d (.v (.int k' b)) => bif k == k' then
        match op with
        | .add => some (.d (.v (.int k (k.wrap (a + b)))))
        | .sub => some (.d (.v (.int k (k.wrap (a - b)))))
        | .mul => some (.d (.v (.int k (k.wrap (a * b)))))
        | .quo => bif decide (b = 0) then none else some (.d (.v (.int k (k.wrap (a.tdiv b)))))
        | .rem => bif decide (b = 0) then none else some (.d (.v (.int k (a.tmod b))))
        | _ => none
      else none
    | .agg l, .agg l' => match op with
        | .eql => match eqAg Tryz.prog ty l l' with
          | some b => some (.d (.v (.bool b)))
          | none => none
        | .neq => match eqAg Tryz.prog ty l l' with
          | some b => some (.d (.v (.bool (!b))))
          | none => none
        | _ => none
    | _, _ => none
  | .unOp .neg _ x => match evP F x with
    | .d (.v (.int k a)) => some (.d (.v (.int k (k.wrap (-a)))))
    | _ => none
  | .convert src dst x => bif tyOks src && tyOks dst && Nat.beq (tyi dst).kind 5 then
      match evP F x with
      | .d (.v (.int _ a)) => some (.d (.v (.int (tyi dst).ik ((tyi dst).ik.wrap a))))
      | _ => none
    else none
  | .field t x f => match Tryz.prog.underlying t with
    | some (.struct fs) => match fs[f]? with
      | some fd => bif tyOks fd.type then
          match evP F x with
          | .agg l => bif (tyi fd.type).isRow then
              bif Nat.ble (fd.offset + (tyi fd.type).size) l.length then some (.agg ((l.drop fd.offset).take (tyi fd.type).size)) else none
            else l[fd.offset]?
          | _ => none
        else none
      | none => none
    | _ => none
  | _ => none
theorem stepX_ok {o : Oper} {F : Nat → PV} {S : PS} {r : PV} (h : stepX F S o.op = some r) : OpS Tryz.prog o F S r S := by
  generalize ho : o.op = p at h
  unfold stepX at h
  split at h
  · rename_i t x y
    cases hk : (tyOks t && Nat.beq (tyi t).kind 2) with
    | false => rw [hk] at h; cases h
    | true =>
      rw [hk] at h
      simp only [cond_true] at h
      simp only [Bool.and_eq_true] at hk
      split at h
      · rename_i l kd j hx hy
        cases h0 : decide (0 ≤ j) with
        | false => rw [h0] at h; cases h
        | true =>
          rw [h0] at h
          simp only [cond_true] at h
          split at h
          · rename_i e he
            cases h
            exact ops_indexS ho (tyok t hk.1) (Nat.eq_of_beq_eq_true hk.2) hx hy (by simpa using h0) he
          · cases h
      · cases h
  · rename_i t x y
    cases hk : (tyOks t && Nat.beq (tyi t).kind 3 && tyOks (tyi t).elem) with
    | false => rw [hk] at h; cases h
    | true =>
      rw [hk] at h
      simp only [cond_true] at h
      simp only [Bool.and_eq_true] at hk
      split at h
      · rename_i l kd j hx hy
        cases h0 : (decide (0 ≤ j) && decide (j < (tyi t).len)) with
        | false => rw [h0] at h; cases h
        | true =>
          rw [h0] at h
          simp only [cond_true] at h
          simp only [Bool.and_eq_true, decide_eq_true_eq] at h0
          cases hr : (tyi (tyi t).elem).isRow with
          | true =>
            rw [hr] at h
            simp only [cond_true] at h
            cases hb : Nat.ble (j.toNat * (tyi (tyi t).elem).size + (tyi (tyi t).elem).size) l.length with
            | false => rw [hb] at h; cases h
            | true =>
              rw [hb] at h
              cases h
              exact ops_indexV ho (tyok t hk.1.1) (Nat.eq_of_beq_eq_true hk.1.2) (tyok _ hk.2) hx hy h0.1 h0.2 (.inl ⟨hr, rfl, Nat.le_of_ble_eq_true hb⟩)
          | false =>
            rw [hr] at h
            simp only [cond_false] at h
            split at h
            · rename_i p hp
              cases h
              exact ops_indexV ho (tyok t hk.1.1) (Nat.eq_of_beq_eq_true hk.1.2) (tyok _ hk.2) hx hy h0.1 h0.2 (.inr ⟨hr, hp⟩)
            · cases h
      · cases h
  · split at h
    · rename_i k a k' b hx hy
      cases hk : (k == k') with
      | false => rw [hk] at h; cases h
      | true =>
        rw [hk] at h
        obtain rfl := kind_eq hk
        simp only [cond_true] at h
        split at h
        · cases h; exact opb_addW ho hx hy
        · cases h; exact opb_subW ho hx hy
        · cases h; exact opb_mulW ho hx hy
        · by_cases hb : b = 0
          · subst hb; cases h
          · rw [show decide (b = 0) = false by simpa using hb] at h; cases h; exact opb_quoT ho hx hy hb
        · by_cases hb : b = 0
          · subst hb; cases h
          · rw [show decide (b = 0) = false by simpa using hb] at h; cases h; exact opb_remT ho hx hy hb
        · cases h
    · rename_i l l' hx hy
      split at h
      · split at h
        · rename_i b hb; cases h; exact opb_eqlA ho hx hy hb
        · cases h
      · split at h
        · rename_i b hb; cases h; exact opb_neqA ho hx hy hb
        · cases h
      · cases h
    · cases h
  · split at h
    · rename_i k a hx; cases h; exact opu_negW ho hx
    · cases h
  · rename_i src dst x
    cases hk : (tyOks src && tyOks dst && Nat.beq (tyi dst).kind 5) with
    | false => rw [hk] at h; cases h
    | true =>
      rw [hk] at h
      simp only [cond_true] at h
      simp only [Bool.and_eq_true] at hk
      split at h
      · rename_i k a hx; cases h; exact opc_intW ho (tyok _ hk.1.1) (tyok _ hk.1.2) (Nat.eq_of_beq_eq_true hk.2) hx
      · cases h
  · rename_i t x f
    split at h
    · rename_i fs hfs
      split at h
      · rename_i fd hfd
        cases hk : tyOks fd.type with
        | false => rw [hk] at h; cases h
        | true =>
          rw [hk] at h
          simp only [cond_true] at h
          split at h
          · rename_i l hx
            cases hr : (tyi fd.type).isRow with
            | true =>
              rw [hr] at h
              simp only [cond_true] at h
              cases hb : Nat.ble (fd.offset + (tyi fd.type).size) l.length with
              | false => rw [hb] at h; cases h
              | true =>
                rw [hb] at h
                cases h
                exact opt_part ho hx hfs hfd rfl (tyok _ hk) rfl (.inl ⟨hr, rfl, hb⟩)
            | false =>
              rw [hr] at h
              exact opt_part ho hx hfs hfd rfl (tyok _ hk) rfl (.inr ⟨hr, h⟩)
          · cases h
      · cases h
    · cases h
  · cases h
end Go.Proofs.YtiledamgmppcmaaGreatDoor
/-! PlJk -/
namespace Go.Proofs.YtiledamgmppcmaaGreatDoor
open Go.RowKit
/-- Is number 'j' not ordered against number 'i'? -/
def unordB (ops : Array Oper) (i j : Nat) : Bool :=
  match ops[i]?, ops[j]? with
  | some oi, some oj => if i < j then !aft oj i else !aft oi j
  | _, _ => true
/-- What an operation of a list of numbers looks at. -/
def seesL (L : List (Nat × List Nat)) (j : Nat) : List Nat := match L.find? (fun e => Nat.beq e.1 j) with | some e => e.2 | none => []
namespace Bw
section
variable (P : Program) (N : Nat) (ops : Array Oper) (ch : Nat → Bool) (U Ut : Nat → List Nat)

inductive WalkA : Nat → List Oper → (Nat → PV) → PS → Bool → List Nat → WRes → Prop
  | nil {k F S D} : WalkA k [] F S false D (.done F S)
  | nilX {k F S D c Sx} : WalkA k [] F S true D (.panic c Sx)
  | skip {k o rest F S bm D res} : guardP ops F o = some false → WalkA (k + 1) rest (putP N o.dst .un F) S bm D res → WalkA k (o :: rest) F S bm D res
  | free {k o rest F S bm D res r} : guardP ops F o = some true → ch k = false → (∀ S', Agree (U k) (Ut k) S S' → OpS P o F S' r S') → WalkA (k + 1) rest (putP N o.dst r F) S bm D res → WalkA k (o :: rest) F S bm D res
  | pin {k o rest F S bm D res r} : guardP ops F o = some true → ch k = false → pinB ops ch k = true → OpS P o F S r S → WalkA (k + 1) rest (putP N o.dst r F) S bm D res → WalkA k (o :: rest) F S bm D res
  | chain {k o rest F S S' D res r} : guardP ops F o = some true → ch k = true → OpS P o F S r S' → (∀ j, unordB ops k j = true → Agree (U j) (Ut j) S S') → WalkA (k + 1) rest (putP N o.dst r F) S' false D res → WalkA k (o :: rest) F S false D res
  | boom {k o rest F S D c Sx} : guardP ops F o = some true → ch k = true → OpX P o F S c Sx → WalkA (k + 1) rest (putP N o.dst .any F) S true (k :: D) (.panic c Sx) → WalkA k (o :: rest) F S false D (.panic c Sx)
  | dead {k o rest F S D res} : D.any (aft o) = true → WalkA (k + 1) rest (putP N o.dst .any F) S true (k :: D) res → WalkA k (o :: rest) F S true D res

/-- What the walk has shown of operation number 'j'. -/
def Fact (res : WRes) (D : List Nat) (Fs : Nat → Nat → PV) (Ss : Nat → PS) (Rs : Nat → PV) (dd : Nat → Bool) (k j : Nat) : Prop :=
  ∃ o, ops[j]? = some o ∧ Fs (j + 1) = putP N o.dst (Rs j) (Fs j) ∧
    ((dd j = true ∧ Ss (j + 1) = Ss j ∧ ((guardP ops (Fs j) o = some true ∧ ch j = true ∧ ∃ c Sx, res = .panic c Sx ∧ OpX P o (Fs j) (Ss j) c Sx) ∨ ∃ i, (i ∈ D ∨ (k ≤ i ∧ i < j ∧ dd i = true)) ∧ aft o i = true)) ∨
     (dd j = false ∧ guardP ops (Fs j) o = some false ∧ Rs j = .un ∧ Ss (j + 1) = Ss j) ∨
     (dd j = false ∧ guardP ops (Fs j) o = some true ∧ ch j = false ∧ Ss (j + 1) = Ss j ∧ ((∀ S', Agree (U j) (Ut j) (Ss j) S' → OpS P o (Fs j) S' (Rs j) S') ∨ (pinB ops ch j = true ∧ OpS P o (Fs j) (Ss j) (Rs j) (Ss j)))) ∨
     (dd j = false ∧ guardP ops (Fs j) o = some true ∧ ch j = true ∧ (∀ i, unordB ops j i = true → Agree (U i) (Ut i) (Ss j) (Ss (j + 1))) ∧ OpS P o (Fs j) (Ss j) (Rs j) (Ss (j + 1))))
end

section
variable {P : Program} {N : Nat} {ops : Array Oper} {ch : Nat → Bool} {U Ut : Nat → List Nat}

theorem fact_cons {res : WRes} {D D' : List Nat} {F : Nat → PV} {S : PS} {r : PV} {b : Bool} {Fs : Nat → Nat → PV} {Ss : Nat → PS} {Rs : Nat → PV} {dd : Nat → Bool} {k j : Nat} (hD : D' = D ∨ (D' = k :: D ∧ b = true)) (hj : k < j)
    (h : Fact P N ops ch U Ut res D' Fs Ss Rs dd (k + 1) j) : Fact P N ops ch U Ut res D (fun i => if i = k then F else Fs i) (fun i => if i = k then S else Ss i) (fun i => if i = k then r else Rs i) (fun i => if i = k then b else dd i) k j := by
  obtain ⟨o, ho, h1, h2⟩ := h
  have e1 : ¬ j = k := by omega
  have e2 : ¬ j + 1 = k := by omega
  refine ⟨o, ho, by simp only [if_neg e1, if_neg e2]; exact h1, ?_⟩
  simp only [if_neg e1, if_neg e2]
  rcases h2 with ⟨h3, h4, h5⟩ | h2
  · refine .inl ⟨h3, h4, ?_⟩
    rcases h5 with h5 | ⟨i, hi, ha⟩
    · exact .inl h5
    · refine .inr ⟨i, ?_, ha⟩
      rcases hi with hi | ⟨hi1, hi2, hi3⟩
      · rcases hD with rfl | ⟨rfl, rfl⟩
        · exact .inl hi
        · rcases List.mem_cons.1 hi with rfl | hi
          · exact .inr ⟨Nat.le_refl _, hj, by simp⟩
          · exact .inl hi
      · refine .inr ⟨by omega, hi2, ?_⟩
        rw [if_neg (by omega)]; exact hi3
  · exact .inr h2

theorem WalkA.isPanic {k : Nat} {rest : List Oper} {F : Nat → PV} {S : PS} {bm : Bool} {D : List Nat} {res : WRes} (h : WalkA P N ops ch U Ut k rest F S bm D res) : bm = true → ∃ c Sx, res = .panic c Sx := by
  induction h with
  | nil => intro h; cases h
  | nilX => intro _; exact ⟨_, _, rfl⟩
  | skip _ _ ih => exact ih
  | free _ _ _ _ ih => exact ih
  | pin _ _ _ _ _ ih => exact ih
  | chain _ _ _ _ _ ih => intro h; cases h
  | boom _ _ _ _ ih => intro h; cases h
  | dead _ _ ih => exact ih

theorem WalkA.seq {k : Nat} {rest : List Oper} {F : Nat → PV} {S : PS} {bm : Bool} {D : List Nat} {res : WRes} (h : WalkA P N ops ch U Ut k rest F S bm D res) : (∀ j, rest[j]? = ops[k + j]?) →
    ∃ (Fs : Nat → Nat → PV) (Ss : Nat → PS) (Rs : Nat → PV) (dd : Nat → Bool), Fs k = F ∧ Ss k = S ∧ (∀ j, k ≤ j → j < k + rest.length → Fact P N ops ch U Ut res D Fs Ss Rs dd k j) ∧
      match res with
      | .done Fe Se => Fe = Fs (k + rest.length) ∧ Se = Ss (k + rest.length) ∧ (∀ j, k ≤ j → j < k + rest.length → dd j = false)
      | .panic _ _ => bm = true ∨ ∃ j, k ≤ j ∧ j < k + rest.length ∧ dd j = true := by
  induction h with
  | @nil k F S D => intro _; exact ⟨fun _ => F, fun _ => S, fun _ => .any, fun _ => false, rfl, rfl, fun j h1 h2 => by simp at h2; omega, rfl, rfl, fun j _ _ => rfl⟩
  | @nilX k F S D c Sx => intro _; exact ⟨fun _ => F, fun _ => S, fun _ => .any, fun _ => false, rfl, rfl, fun j h1 h2 => by simp at h2; omega, .inl rfl⟩
  | @skip k o rest F S bm D res hg _ ih =>
    intro hr
    have ho : ops[k]? = some o := by simpa using (hr 0).symm
    obtain ⟨Fs, Ss, Rs, dd, h1, h2, h3, h4⟩ := ih (fun j => by have := hr (j + 1); simpa [Nat.add_assoc, Nat.add_comm 1 j] using this)
    refine ⟨fun i => if i = k then F else Fs i, fun i => if i = k then S else Ss i, fun i => if i = k then .un else Rs i, fun i => if i = k then false else dd i, by simp, by simp, fun j hj1 hj2 => ?_, ?_⟩
    · by_cases e : j = k
      · subst e
        exact ⟨o, ho, by simp [h1], .inr (.inl ⟨by simp, by simpa using hg, by simp, by simp [h2]⟩)⟩
      · exact fact_cons (.inl rfl) (by omega) (h3 j (by omega) (by simp at hj2; omega))
    · have e : ¬ k + (o :: rest).length = k := by simp
      have e2 : k + (o :: rest).length = k + 1 + rest.length := by simp; omega
      cases res with
      | done Fe Se =>
        obtain ⟨h5, h6, h7⟩ := h4
        refine ⟨by simp only [if_neg e]; rw [e2]; exact h5, by simp only [if_neg e]; rw [e2]; exact h6, fun j hj1 hj2 => ?_⟩
        by_cases e3 : j = k
        · simp [e3]
        · simp only [if_neg e3]; exact h7 j (by omega) (by omega)
      | panic c Sx =>
        rcases h4 with h4 | ⟨j, h5, h6, h7⟩
        · exact .inl h4
        · exact .inr ⟨j, by omega, by omega, by show (if j = k then _ else _) = true; rw [if_neg (by omega)]; exact h7⟩
  | @free k o rest F S bm D res r hg hc hf _ ih =>
    intro hr
    have ho : ops[k]? = some o := by simpa using (hr 0).symm
    obtain ⟨Fs, Ss, Rs, dd, h1, h2, h3, h4⟩ := ih (fun j => by have := hr (j + 1); simpa [Nat.add_assoc, Nat.add_comm 1 j] using this)
    refine ⟨fun i => if i = k then F else Fs i, fun i => if i = k then S else Ss i, fun i => if i = k then r else Rs i, fun i => if i = k then false else dd i, by simp, by simp, fun j hj1 hj2 => ?_, ?_⟩
    · by_cases e : j = k
      · subst e
        exact ⟨o, ho, by simp [h1], .inr (.inr (.inl ⟨by simp, by simpa using hg, hc, by simp [h2], .inl (by simpa using hf)⟩))⟩
      · exact fact_cons (.inl rfl) (by omega) (h3 j (by omega) (by simp at hj2; omega))
    · have e : ¬ k + (o :: rest).length = k := by simp
      have e2 : k + (o :: rest).length = k + 1 + rest.length := by simp; omega
      cases res with
      | done Fe Se =>
        obtain ⟨h5, h6, h7⟩ := h4
        refine ⟨by simp only [if_neg e]; rw [e2]; exact h5, by simp only [if_neg e]; rw [e2]; exact h6, fun j hj1 hj2 => ?_⟩
        by_cases e3 : j = k
        · simp [e3]
        · simp only [if_neg e3]; exact h7 j (by omega) (by omega)
      | panic c Sx =>
        rcases h4 with h4 | ⟨j, h5, h6, h7⟩
        · exact .inl h4
        · exact .inr ⟨j, by omega, by omega, by show (if j = k then _ else _) = true; rw [if_neg (by omega)]; exact h7⟩
  | @pin k o rest F S bm D res r hg hc hp hf _ ih =>
    intro hr
    have ho : ops[k]? = some o := by simpa using (hr 0).symm
    obtain ⟨Fs, Ss, Rs, dd, h1, h2, h3, h4⟩ := ih (fun j => by have := hr (j + 1); simpa [Nat.add_assoc, Nat.add_comm 1 j] using this)
    refine ⟨fun i => if i = k then F else Fs i, fun i => if i = k then S else Ss i, fun i => if i = k then r else Rs i, fun i => if i = k then false else dd i, by simp, by simp, fun j hj1 hj2 => ?_, ?_⟩
    · by_cases e : j = k
      · subst e
        exact ⟨o, ho, by simp [h1], .inr (.inr (.inl ⟨by simp, by simpa using hg, hc, by simp [h2], .inr ⟨hp, by simpa using hf⟩⟩))⟩
      · exact fact_cons (.inl rfl) (by omega) (h3 j (by omega) (by simp at hj2; omega))
    · have e : ¬ k + (o :: rest).length = k := by simp
      have e2 : k + (o :: rest).length = k + 1 + rest.length := by simp; omega
      cases res with
      | done Fe Se =>
        obtain ⟨h5, h6, h7⟩ := h4
        refine ⟨by simp only [if_neg e]; rw [e2]; exact h5, by simp only [if_neg e]; rw [e2]; exact h6, fun j hj1 hj2 => ?_⟩
        by_cases e3 : j = k
        · simp [e3]
        · simp only [if_neg e3]; exact h7 j (by omega) (by omega)
      | panic c Sx =>
        rcases h4 with h4 | ⟨j, h5, h6, h7⟩
        · exact .inl h4
        · exact .inr ⟨j, by omega, by omega, by show (if j = k then _ else _) = true; rw [if_neg (by omega)]; exact h7⟩
  | @chain k o rest F S S' D res r hg hc hf ha _ ih =>
    intro hr
    have ho : ops[k]? = some o := by simpa using (hr 0).symm
    obtain ⟨Fs, Ss, Rs, dd, h1, h2, h3, h4⟩ := ih (fun j => by have := hr (j + 1); simpa [Nat.add_assoc, Nat.add_comm 1 j] using this)
    refine ⟨fun i => if i = k then F else Fs i, fun i => if i = k then S else Ss i, fun i => if i = k then r else Rs i, fun i => if i = k then false else dd i, by simp, by simp, fun j hj1 hj2 => ?_, ?_⟩
    · by_cases e : j = k
      · subst e
        exact ⟨o, ho, by simp [h1], .inr (.inr (.inr ⟨by simp, by simpa using hg, hc, by simpa [h2] using ha, by simpa [h2] using hf⟩))⟩
      · exact fact_cons (.inl rfl) (by omega) (h3 j (by omega) (by simp at hj2; omega))
    · have e : ¬ k + (o :: rest).length = k := by simp
      have e2 : k + (o :: rest).length = k + 1 + rest.length := by simp; omega
      cases res with
      | done Fe Se =>
        obtain ⟨h5, h6, h7⟩ := h4
        refine ⟨by simp only [if_neg e]; rw [e2]; exact h5, by simp only [if_neg e]; rw [e2]; exact h6, fun j hj1 hj2 => ?_⟩
        by_cases e3 : j = k
        · simp [e3]
        · simp only [if_neg e3]; exact h7 j (by omega) (by omega)
      | panic c Sx =>
        rcases h4 with h4 | ⟨j, h5, h6, h7⟩
        · exact .inl h4
        · exact .inr ⟨j, by omega, by omega, by show (if j = k then _ else _) = true; rw [if_neg (by omega)]; exact h7⟩
  | @boom k o rest F S D c Sx hg hc hf _ ih =>
    intro hr
    have ho : ops[k]? = some o := by simpa using (hr 0).symm
    obtain ⟨Fs, Ss, Rs, dd, h1, h2, h3, h4⟩ := ih (fun j => by have := hr (j + 1); simpa [Nat.add_assoc, Nat.add_comm 1 j] using this)
    refine ⟨fun i => if i = k then F else Fs i, fun i => if i = k then S else Ss i, fun i => if i = k then .any else Rs i, fun i => if i = k then true else dd i, by simp, by simp, fun j hj1 hj2 => ?_, .inr ⟨k, Nat.le_refl _, by simp, by simp⟩⟩
    by_cases e : j = k
    · subst e
      exact ⟨o, ho, by simp [h1], .inl ⟨by simp, by simp [h2], .inl ⟨by simpa using hg, hc, c, Sx, rfl, by simpa using hf⟩⟩⟩
    · exact fact_cons (.inr ⟨rfl, rfl⟩) (by omega) (h3 j (by omega) (by simp at hj2; omega))
  | @dead k o rest F S D res hd hw ih =>
    intro hr
    have ho : ops[k]? = some o := by simpa using (hr 0).symm
    obtain ⟨Fs, Ss, Rs, dd, h1, h2, h3, h4⟩ := ih (fun j => by have := hr (j + 1); simpa [Nat.add_assoc, Nat.add_comm 1 j] using this)
    refine ⟨fun i => if i = k then F else Fs i, fun i => if i = k then S else Ss i, fun i => if i = k then .any else Rs i, fun i => if i = k then true else dd i, by simp, by simp, fun j hj1 hj2 => ?_, ?_⟩
    · by_cases e : j = k
      · subst e
        obtain ⟨i, hi, ha⟩ := List.any_eq_true.1 hd
        exact ⟨o, ho, by simp [h1], .inl ⟨by simp, by simp [h2], .inr ⟨i, .inl hi, ha⟩⟩⟩
      · exact fact_cons (.inr ⟨rfl, rfl⟩) (by omega) (h3 j (by omega) (by simp at hj2; omega))
    · cases res with
      | done Fe Se =>
        obtain ⟨c, Sx, h5⟩ := hw.isPanic rfl
        cases h5
      | panic c Sx => exact .inl rfl

/-- What is known in the midst of a region. -/
structure Mid (P : Program) (N : Nat) (ops : Array Oper) (ch : Nat → Bool) (res : WRes) (Fs : Nat → Nat → PV) (Ss : Nat → PS) (Rs : Nat → PV) (dd : Nat → Bool) (K0 : Kx) (w0 : World) (ds : List Deferred) (fuel : Nat) (listed : Array Bool) (a : Act) (w : World) : Prop where
  size : listed.size = ops.size
  count : listed.toList.count false = fuel
  closed : ∀ i oi, listed.getD i false = true → ops[i]? = some oi → ∀ i', aft oi i' = true → listed.getD i' false = true
  alive : ∀ i, listed.getD i false = true → dd i = false
  tsize : a.tmps.size = N
  defers : a.defers = ds
  know : ∃ K p, Step K0 K w0 w ∧ Inv K (Ss p) w ∧ p ≤ ops.size ∧ (∀ i, i < ops.size → ch i = true → (listed.getD i false = true ↔ i < p)) ∧
    (∀ t, (∀ i oi, ops[i]? = some oi → listed.getD i false = true → oi.dst = some t → t < N → Rep K w (Rs i) (a.tmps.getD t undef)) ∧
      ((∀ i oi, ops[i]? = some oi → listed.getD i false = true → oi.dst = some t → ¬ t < N) → Rep K w (Fs 0 t) (a.tmps.getD t undef)))
end
section
variable {P : Program} {N : Nat} {ops : Array Oper} {ch : Nat → Bool} {U Ut : Nat → List Nat} {res : WRes} {Fs : Nat → Nat → PV} {Ss : Nat → PS} {Rs : Nat → PV} {dd : Nat → Bool}

theorem fact_slot (hf : ∀ j, j < ops.size → Fact P N ops ch U Ut res [] Fs Ss Rs dd 0 j) (hB : anyB ops ch = true) : ∀ k, k ≤ ops.size → ∀ t, (∀ i oi, i < k → ops[i]? = some oi → oi.dst = some t → t < N → Fs k t = Rs i) ∧ ((∀ i oi, i < k → ops[i]? = some oi → oi.dst = some t → ¬ t < N) → Fs k t = Fs 0 t) := by
  intro k
  induction k with
  | zero => intro _ t; exact ⟨fun i _ h => by omega, fun _ => rfl⟩
  | succ k ih =>
    intro hk t
    obtain ⟨h1, h2⟩ := ih (by omega) t
    obtain ⟨o, ho, hF, _⟩ := hf k (by omega)
    have hsl := (anyB_slot hB ho).1
    have hFt : Fs (k + 1) t = if o.dst = some t ∧ t < N then Rs k else Fs k t := by
      rw [hF]
      cases hd : o.dst with
      | none => simp [putP]
      | some d =>
        rw [putP_some]
        by_cases e : t = d
        · subst e; simp
        · simp [e, Ne.symm e]
    refine ⟨fun i oi hi hoi hd ht => ?_, fun h => ?_⟩
    · by_cases e : i = k
      · subst e
        rw [ho] at hoi; cases hoi
        rw [hFt, if_pos ⟨hd, ht⟩]
      · rw [hFt, if_neg (fun hc => slotB_dst hsl hoi (by omega) hd hc.1)]
        exact h1 i oi (by omega) hoi hd ht
    · rw [hFt, if_neg (fun hc => h k o (by omega) ho hc.1 hc.2)]
      exact h2 fun i oi hi => h i oi (by omega)

theorem fact_const (hf : ∀ j, j < ops.size → Fact P N ops ch U Ut res [] Fs Ss Rs dd 0 j) {x : Nat} : ∀ y, x ≤ y → y ≤ ops.size → (∀ i, x ≤ i → i < y → ch i = false) → Ss y = Ss x := by
  intro y hxy
  obtain ⟨d, rfl⟩ : ∃ d, y = x + d := ⟨y - x, by omega⟩
  clear hxy
  induction d with
  | zero => intro _ _; rfl
  | succ d ih =>
    intro hn hc
    rw [← ih (by omega) fun i h1 h2 => hc i h1 (by omega)]
    obtain ⟨o, ho, hF, h⟩ := hf (x + d) (by omega)
    have := hc (x + d) (by omega) (by omega)
    rcases h with ⟨_, h, _⟩ | ⟨_, _, _, h⟩ | ⟨_, _, _, h, _⟩ | ⟨_, _, h, _⟩
    · exact h
    · exact h
    · exact h
    · rw [this] at h; cases h
theorem fact_agree (hf : ∀ j, j < ops.size → Fact P N ops ch U Ut res [] Fs Ss Rs dd 0 j) {x z : Nat} : ∀ y, x ≤ y → y ≤ ops.size → (∀ i, x ≤ i → i < y → ch i = true → unordB ops i z = true) → Agree (U z) (Ut z) (Ss x) (Ss y) := by
  intro y hxy
  obtain ⟨d, rfl⟩ : ∃ d, y = x + d := ⟨y - x, by omega⟩
  clear hxy
  induction d with
  | zero => intro _ _; exact Agree.refl _
  | succ d ih =>
    intro hn hc
    refine (ih (by omega) fun i h1 h2 => hc i h1 (by omega)).trans ?_
    obtain ⟨o, ho, hF, h⟩ := hf (x + d) (by omega)
    have := hc (x + d) (by omega) (by omega)
    rcases h with ⟨_, h, _⟩ | ⟨_, _, _, h⟩ | ⟨_, _, _, h, _⟩ | ⟨_, _, hch, h, _⟩
    · rw [show x + (d + 1) = x + d + 1 from rfl, h]; exact Agree.refl _
    · rw [show x + (d + 1) = x + d + 1 from rfl, h]; exact Agree.refl _
    · rw [show x + (d + 1) = x + d + 1 from rfl, h]; exact Agree.refl _
    · exact h z (this hch)

theorem chain_down (hB : anyB ops ch = true) {listed : Array Bool} (hc : ∀ i oi, listed.getD i false = true → ops[i]? = some oi → ∀ i', aft oi i' = true → listed.getD i' false = true) :
    ∀ d i j oj, j - i ≤ d → i < j → ops[j]? = some oj → ch i = true → ch j = true → (∀ i', aft oj i' = true → listed.getD i' false = true) → listed.getD i false = true := by
  intro d
  induction d with
  | zero => intro i j oj h1 h2; omega
  | succ d ih =>
    intro i j oj h1 h2 hj hi hcj haft
    have h3 := (anyB_slot hB hj).2
    simp only [chainB, hcj, Bool.not_true, Bool.false_or] at h3
    have h4 := List.all_eq_true.1 h3 i (by simpa using h2)
    simp only [hi, Bool.not_true, Bool.false_or, Bool.or_eq_true] at h4
    rcases h4 with h4 | h4
    · exact haft i h4
    · obtain ⟨m, hm, h5⟩ := List.any_eq_true.1 h4
      simp only [Bool.and_eq_true, decide_eq_true_eq, List.mem_range] at h5 hm
      have hjs := (Array.getElem?_eq_some_iff.1 hj).1
      have h6 := ih m j oj (by omega) hm hj h5.2 hcj haft
      have hom : ops[m]? = some ops[m] := Array.getElem?_eq_getElem (by omega)
      exact ih i m _ (by omega) h5.1 hom hi h5.2 fun i' ha => hc m _ h6 hom i' ha

variable {K0 : Kx} {w0 : World} {ds : List Deferred} {Q : Exit → Act → World → Prop}

theorem all_listed (hB : anyB ops ch = true) {listed : Array Bool} (hs : listed.size = ops.size) (h : Region.ready .any ops listed = []) : ∀ i, i < ops.size → listed.getD i false = true := by
  intro i
  induction i using Nat.strongRecOn with
  | _ i ih =>
    intro hi
    by_cases e : listed.getD i false = true
    · exact e
    · exfalso
      have ho : ops[i]? = some ops[i] := Array.getElem?_eq_getElem hi
      have : i ∈ Region.ready .any ops listed := by
        refine mem_ready.2 ⟨?_, _, ho, fun x hx hb => ?_⟩
        · have hlt : i < listed.size := by omega
          simp [Array.getD_eq_getD_getElem?, hlt] at e ⊢
          exact e
        · have ha : aft ops[i] x.on = true := Array.any_eq_true'.2 ⟨x, hx, by simp [hb]⟩
          have hlt := slotB_after (anyB_slot hB ho).1 ha
          exact ih x.on hlt (by omega)
      rw [h] at this
      cases this

theorem Mid.finish (hf : ∀ j, j < ops.size → Fact P N ops ch U Ut res [] Fs Ss Rs dd 0 j) (hB : anyB ops ch = true)
    (hres : match res with | .done Fe Se => Fe = Fs ops.size ∧ Se = Ss ops.size | .panic _ _ => ∃ j, j < ops.size ∧ dd j = true) (hE : endQ N K0 w0 ds Q res)
    {fuel : Nat} {listed : Array Bool} {a : Act} {w : World} (hM : Mid P N ops ch res Fs Ss Rs dd K0 w0 ds fuel listed a w) (hall : ∀ i, i < ops.size → listed.getD i false = true) : Q .normal a w := by
  obtain ⟨K, p, hs, hI, hp, hch, hk⟩ := hM.know
  cases res with
  | panic c Sx =>
    obtain ⟨j, hj, hd⟩ := hres
    rw [hM.alive j (hall j hj)] at hd; cases hd
  | done Fe Se =>
    obtain ⟨rfl, rfl⟩ := hres
    have hSS : Ss ops.size = Ss p := fact_const hf _ hp (Nat.le_refl _) fun i h1 h2 => by
      cases e : ch i with
      | false => rfl
      | true => exact absurd ((hch i h2 e).1 (hall i h2)) (by omega)
    refine hE K a w hs (by rw [hSS]; exact hI) ⟨hM.tsize, fun t => ?_⟩ hM.defers
    obtain ⟨h1, h2⟩ := fact_slot hf hB ops.size (Nat.le_refl _) t
    obtain ⟨h3, h4⟩ := hk t
    by_cases e : ∃ (i : Nat) (oi : Oper), ops[i]? = some oi ∧ oi.dst = some t ∧ t < N
    · obtain ⟨i, oi, hoi, hd, ht⟩ := e
      have hi := (Array.getElem?_eq_some_iff.1 hoi).1
      rw [h1 i oi hi hoi hd ht]
      exact h3 i oi hoi (hall i hi) hd ht
    · rw [h2 fun i oi _ hoi hd ht => e ⟨i, oi, hoi, hd, ht⟩]
      exact h4 fun i oi hoi _ hd ht => e ⟨i, oi, hoi, hd, ht⟩

theorem set_getD {listed : Array Bool} {j i : Nat} (hj : j < listed.size) : (listed.setIfInBounds j true).getD i false = if i = j then true else listed.getD i false := by
  by_cases e : i = j
  · subst e; simp [Array.getD_eq_getD_getElem?, hj]
  · simp [Array.getD_eq_getD_getElem?, Array.getElem?_setIfInBounds_ne (Ne.symm e), e]

/-- Number 'j' has come up and yielded. -/
theorem Mid.next (hf : ∀ j, j < ops.size → Fact P N ops ch U Ut res [] Fs Ss Rs dd 0 j) (hB : anyB ops ch = true) (hI0 : Inv K0 (Ss 0) w0)
    {fuel : Nat} {listed : Array Bool} {a : Act} {w : World} (hM : Mid P N ops ch res Fs Ss Rs dd K0 w0 ds (fuel + 1) listed a w) {j : Nat} (hj : j ∈ Region.ready .any ops listed) {o : Oper} (ho : ops[j]? = some o) (hal : dd j = false)
    {K K' : Kx} {p : Nat} {w' : World} {v : Value} (hs0 : Step K0 K w0 w) (hs : Step K K' w w') (hr : Rep K' w' (Rs j) v)
    (hch : ∀ i, i < ops.size → ch i = true → (listed.getD i false = true ↔ i < p))
    (hk : ∀ t, (∀ i oi, ops[i]? = some oi → listed.getD i false = true → oi.dst = some t → t < N → Rep K w (Rs i) (a.tmps.getD t undef)) ∧
      ((∀ i oi, ops[i]? = some oi → listed.getD i false = true → oi.dst = some t → ¬ t < N) → Rep K w (Fs 0 t) (a.tmps.getD t undef)))
    (hI' : Inv K' (Ss (if ch j then j + 1 else p)) w') (hp : p ≤ ops.size) : Mid P N ops ch res Fs Ss Rs dd K0 w0 ds fuel (listed.setIfInBounds j true) (a.put o.dst v) w' := by
  have hjs := (Array.getElem?_eq_some_iff.1 ho).1
  have hjl : j < listed.size := by rw [hM.size]; exact hjs
  have hun : listed.getD j false = false := by
    have := (mem_ready.1 hj).1
    simp [Array.getD_eq_getD_getElem?, hjl] at this ⊢
    exact this
  have hdist : ∀ i oi t, i ≠ j → ops[i]? = some oi → oi.dst = some t → o.dst ≠ some t := by
    intro i oi t hne hoi hd hc
    rcases Nat.lt_or_ge i j with hlt | hge
    · exact slotB_dst (anyB_slot hB ho).1 hoi hlt hd hc
    · exact slotB_dst (anyB_slot hB hoi).1 ho (by omega) hc hd
  refine ⟨by simp [hM.size], ?_, fun i oi hi hoi i' ha => ?_, fun i hi => ?_, by rw [put_size]; exact hM.tsize, by rw [put_defers]; exact hM.defers, ?_⟩
  · have hc := hM.count
    rw [Array.toList_setIfInBounds, List.count_set (by simpa using hjl), hc]
    have : listed.toList[j]'(by simpa using hjl) = false := by
      simp [Array.getD_eq_getD_getElem?, hjl] at hun
      simpa using hun
    simp [this]
  · rw [set_getD hjl] at hi ⊢
    by_cases e : i = j
    · subst e
      rw [ho] at hoi; cases hoi
      have := ready_aft hj ho ha
      split
      · rfl
      · exact this
    · rw [if_neg e] at hi
      have := hM.closed i oi hi hoi i' ha
      split
      · rfl
      · exact this
  · rw [set_getD hjl] at hi
    by_cases e : i = j
    · subst e; exact hal
    · rw [if_neg e] at hi; exact hM.alive i hi
  · refine ⟨K', if ch j then j + 1 else p, hs0.trans hI0 hs, hI', by split <;> omega, fun i hi hci => ?_, fun t => ?_⟩
    · rw [set_getD hjl]
      by_cases ecj : ch j = true
      · rw [if_pos ecj]
        by_cases e : i = j
        · subst e; simp
        · rw [if_neg e]
          constructor
          · intro h
            rcases Nat.lt_or_ge j i with hlt | hge
            · have h5 : listed.getD j false = true := chain_down hB hM.closed (i - j) j i _ (Nat.le_refl _) hlt (Array.getElem?_eq_getElem hi) ecj hci fun i' ha => hM.closed i _ h (Array.getElem?_eq_getElem hi) i' ha
              rw [hun] at h5; cases h5
            · omega
          · intro h
            exact chain_down hB hM.closed (j - i) i j o (Nat.le_refl _) (by omega) ho hci ecj fun i' ha => ready_aft hj ho ha
      · rw [if_neg ecj, if_neg (by rintro rfl; exact ecj hci)]
        exact hch i hi hci
    · obtain ⟨h1, h2⟩ := hk t
      rw [put_getD hM.tsize]
      refine ⟨fun i oi hoi hli hd ht => ?_, fun h => ?_⟩
      · rw [set_getD hjl] at hli
        by_cases e : i = j
        · subst e
          rw [ho] at hoi; cases hoi
          rw [hd]; dsimp only
          rw [if_pos ⟨rfl, ht⟩]; exact hr
        · rw [if_neg e] at hli
          have hne := hdist i oi t e hoi hd
          have h3 := Rep.step hs _ _ (h1 i oi hoi hli hd ht)
          cases hod : o.dst with
          | none => exact h3
          | some d =>
            dsimp only
            rw [if_neg (fun hc => hne (by rw [hod, hc.1]))]; exact h3
      · have h3 := Rep.step hs _ _ (h2 fun i oi hoi hli hd => h i oi hoi (by
          rw [set_getD hjl]
          split
          · rfl
          · exact hli) hd)
        cases hod : o.dst with
        | none => exact h3
        | some d =>
          dsimp only
          rw [if_neg (fun hc => h j o ho (by rw [set_getD hjl, if_pos rfl]) (by rw [hod, hc.1]) (by rw [hc.1]; exact hc.2))]; exact h3

theorem Mid.any {ro : Option Nat} {mm : Nat} (hf : ∀ j, j < ops.size → Fact P N ops ch U Ut res [] Fs Ss Rs dd 0 j) (hB : anyB ops ch = true) (hI0 : Inv K0 (Ss 0) w0)
    (hres : match res with | .done Fe Se => Fe = Fs ops.size ∧ Se = Ss ops.size | .panic _ _ => ∃ j, j < ops.size ∧ dd j = true) (hE : endQ N K0 w0 ds Q res) :
    ∀ (fuel : Nat) (listed : Array Bool) (a : Act) (w : World), Mid P N ops ch res Fs Ss Rs dd K0 w0 ds fuel listed a w → wpAnyIn (fen ro) mm P .any ops Q fuel listed a w := by
  intro fuel
  induction fuel with
  | zero =>
    intro listed a w hM
    have hall : ∀ i, i < ops.size → listed.getD i false = true := by
      intro i hi
      have h0 := List.count_eq_zero.1 hM.count
      have hlt : i < listed.size := by rw [hM.size]; exact hi
      cases e : listed.getD i false with
      | true => rfl
      | false =>
        exfalso; apply h0
        simp [Array.getD_eq_getD_getElem?, hlt] at e
        rw [← e]; simp
    refine ⟨?_, hM.finish hf hB hres hE hall⟩
    cases e : Region.ready .any ops listed with
    | nil => rfl
    | cons j r =>
      have hj : j ∈ Region.ready .any ops listed := by rw [e]; simp
      obtain ⟨h1, o, ho, _⟩ := mem_ready.1 hj
      have hjs := (Array.getElem?_eq_some_iff.1 ho).1
      have h2 := hall j hjs
      have hlt : j < listed.size := by rw [hM.size]; exact hjs
      simp [Array.getD_eq_getD_getElem?, hlt] at h1 h2
      rw [h1] at h2; cases h2
  | succ fuel ih =>
    intro listed a w hM
    refine ⟨fun h => hM.finish hf hB hres hE (all_listed hB hM.size h), fun j hj => ?_⟩
    obtain ⟨hunl, o, ho, _⟩ := mem_ready.1 hj
    have hjs := (Array.getElem?_eq_some_iff.1 ho).1
    have hjl : j < listed.size := by rw [hM.size]; exact hjs
    have hun : listed.getD j false = false := by
      simp [Array.getD_eq_getD_getElem?, hjl] at hunl ⊢
      exact hunl
    have hsl := (anyB_slot hB ho).1
    obtain ⟨K, p, hs, hI, hp, hch, hk⟩ := hM.know
    -- what op j sees
    have hsee : ∀ t, t ∈ o.looksAt ops → Rep K w (Fs j t) (a.tmps.getD t undef) := by
      intro t ht
      obtain ⟨h1, h2⟩ := fact_slot hf hB j (Nat.le_of_lt hjs) t
      obtain ⟨h3, h4⟩ := hk t
      by_cases e : ∃ (i : Nat) (oi : Oper), i < j ∧ ops[i]? = some oi ∧ oi.dst = some t ∧ t < N
      · obtain ⟨i, oi, hi, hoi, hd, htN⟩ := e
        rw [h1 i oi hi hoi hd htN]
        have h5 := slotB_slot hsl ht hoi hd (by omega)
        rw [if_pos hi] at h5
        exact h3 i oi hoi (ready_aft hj ho h5) hd htN
      · rw [h2 fun i oi hi hoi hd htN => e ⟨i, oi, hi, hoi, hd, htN⟩]
        refine h4 fun i oi hoi hli hd htN => ?_
        by_cases hij : i < j
        · exact e ⟨i, oi, hij, hoi, hd, htN⟩
        · have hne : i ≠ j := by rintro rfl; rw [hun] at hli; cases hli
          have h5 := slotB_slot hsl ht hoi hd hne
          rw [if_neg hij] at h5
          have := hM.closed i oi hli hoi j h5
          rw [hun] at this; cases this
    have hops : ∀ x ∈ o.op.operands, Rep K w (evP (Fs j) x) (a.eval x) := by
      intro x hx
      cases x with
      | tmp t => exact hsee t (List.mem_append_left _ (List.mem_filterMap.2 ⟨.tmp t, by simpa using hx, rfl⟩))
      | const v =>
        simp only [evP, constP, Act.eval]
        split
        · rename_i hv; exact rep_mk hv
        · simp [Rep]
      | global g => simp [evP, Rep]
      | func f => simp only [evP, Act.eval, Rep]; exact ⟨[], rfl, by simp [RepL]⟩
    have hguard : ∀ b, guardP ops (Fs j) o = some b → Region.wanted o (yielded ops a.tmps) = b := fun b hb =>
      guardP_ok hb (K := K) (w := w) fun g want d hg hd => hsee d (List.mem_append_right _ (by simp [hg, hd]))
    have hbelow : ∀ i, i < j → ch i = true → ch j = true → listed.getD i false = true := fun i hi hci hcj => chain_down hB hM.closed (j - i) i j o (Nat.le_refl _) hi ho hci hcj fun i' ha => ready_aft hj ho ha
    have hSp : ch j = true → Ss p = Ss j := by
      intro hcj
      rcases Nat.le_total p j with hpj | hpj
      · exact (fact_const hf j hpj (Nat.le_of_lt hjs) fun i h1 h2 => by
          cases e : ch i with
          | false => rfl
          | true => exact absurd ((hch i (by omega) e).1 (hbelow i h2 e hcj)) (by omega)).symm
      · refine fact_const hf p hpj hp fun i h1 h2 => ?_
        cases e : ch i with
        | false => rfl
        | true =>
          exfalso
          have hli := (hch i (by omega) e).2 h2
          rcases Nat.lt_or_ge j i with hlt | hge
          · have := chain_down hB hM.closed (i - j) j i _ (Nat.le_refl _) hlt (Array.getElem?_eq_getElem (show i < ops.size by omega)) hcj e fun i' ha => hM.closed i _ hli (Array.getElem?_eq_getElem (show i < ops.size by omega)) i' ha
            rw [hun] at this; cases this
          · obtain rfl : i = j := by omega
            rw [hun] at hli; cases hli
    obtain ⟨o', ho', hF, hcase⟩ := hf j hjs
    rw [ho] at ho'; cases ho'
    unfold wpOpIn
    simp only [ho]
    rcases hcase with ⟨hdd, _, hX | ⟨i, hi, ha⟩⟩ | ⟨hdd, hg, hRs, hSS⟩ | ⟨hdd, hg, hcj, hSS, hfree⟩ | ⟨hdd, hg, hcj, hag, hop⟩
    · obtain ⟨hg, hcj, c, Sx, rfl, hX⟩ := hX
      rw [if_pos (hguard _ hg)]
      refine (hX ro mm K w a _ Q (by rw [← hSp hcj]; exact hI) hops fun w' K' h1 h2 => ?_)
      exact hE K' a w' (hs.trans hI0 h1) h2 hM.tsize hM.defers
    · exfalso
      rcases hi with hi | ⟨_, _, hi⟩
      · cases hi
      · rw [hM.alive i (ready_aft hj ho ha)] at hi; cases hi
    · rw [if_neg (by rw [hguard _ hg]; simp)]
      refine ⟨fun _ _ => trivial, ?_⟩
      refine ih _ _ _ (hM.next hf hB hI0 hj ho hdd hs (Step.refl K w) (by rw [hRs]; simp [Rep]) hch hk ?_ hp)
      split
      · rename_i hcj
        rw [hSS, ← hSp hcj]; exact hI
      · exact hI
    · rw [if_pos (hguard _ hg)]
      have hop : OpS P o (Fs j) (Ss p) (Rs j) (Ss p) := by
        rcases hfree with hfree | ⟨hpin, hfree⟩
        · refine hfree _ ?_
          rcases Nat.le_total p j with hpj | hpj
          · refine (fact_agree hf j hpj (Nat.le_of_lt hjs) fun i h1 h2 e => ?_).symm
            unfold unordB
            rw [Array.getElem?_eq_getElem (show i < ops.size by omega), ho]
            simp only [if_pos h2, Bool.not_eq_true']
            cases h3 : aft o i with
            | false => rfl
            | true => exact absurd ((hch i (by omega) e).1 (ready_aft hj ho h3)) (by omega)
          · refine fact_agree hf p hpj hp fun i h1 h2 e => ?_
            unfold unordB
            rw [Array.getElem?_eq_getElem (show i < ops.size by omega), ho]
            simp only [if_neg (show ¬ i < j by omega), Bool.not_eq_true']
            cases h3 : aft ops[i] j with
            | false => rfl
            | true =>
              exfalso
              have := hM.closed i _ ((hch i (by omega) e).2 h2) (Array.getElem?_eq_getElem (show i < ops.size by omega)) j h3
              rw [hun] at this; cases this
        · have hpn : Ss p = Ss j := by
            have hp1 : ∀ i, i < ops.size → ch i = true → i ≠ j → if i < j then aft o i = true else ∃ oi : Oper, ops[i]? = some oi ∧ aft oi j = true := by
              intro i hi hci hne
              unfold pinB at hpin
              rw [ho] at hpin
              have h1 := List.all_eq_true.1 hpin i (by simpa using hi)
              rw [Array.getElem?_eq_getElem hi] at h1
              simp only [hci, Bool.not_true, Bool.false_or, Bool.or_eq_true, beq_iff_eq] at h1
              rcases h1 with h1 | h1
              · exact absurd h1 hne
              · split at h1 <;> rename_i hlt
                · rw [if_pos hlt]; exact h1
                · rw [if_neg hlt]; exact ⟨_, Array.getElem?_eq_getElem hi, h1⟩
            rcases Nat.le_total p j with hpj | hpj
            · exact (fact_const hf j hpj (Nat.le_of_lt hjs) fun i h1 h2 => by
                cases e : ch i with
                | false => rfl
                | true =>
                  have h3 := hp1 i (by omega) e (by omega)
                  rw [if_pos h2] at h3
                  exact absurd ((hch i (by omega) e).1 (ready_aft hj ho h3)) (by omega)).symm
            · refine fact_const hf p hpj hp fun i h1 h2 => ?_
              cases e : ch i with
              | false => rfl
              | true =>
                exfalso
                have hne : i ≠ j := by rintro rfl; rw [hcj] at e; cases e
                have h3 := hp1 i (by omega) e hne
                rw [if_neg (by omega)] at h3
                obtain ⟨oi, hoi, h4⟩ := h3
                have := hM.closed i oi ((hch i (by omega) e).2 h2) hoi j h4
                rw [hun] at this; cases this
          rw [hpn]; exact hfree
      refine (hop ro mm K w a _ Q hI hops fun v w' K' h1 h2 h3 => ?_)
      exact ih _ _ _ (hM.next hf hB hI0 hj ho hdd hs h1 h3 hch hk (by rw [if_neg (by rw [hcj]; simp)]; exact h2) hp)
    · rw [if_pos (hguard _ hg)]
      refine (hop ro mm K w a _ Q (by rw [← hSp hcj]; exact hI) hops fun v w' K' h1 h2 h3 => ?_)
      exact ih _ _ _ (hM.next hf hB hI0 hj ho hdd hs h1 h3 hch hk (by rw [if_pos hcj]; exact h2) hp)
end

theorem wp_region_walkA {ro : Option Nat} {mm : Nat} {P : Program} {N id : Nat} {ops : List Oper} {ch : Nat → Bool} {U Ut : Nat → List Nat} {Q : Exit → Act → World → Prop} {F : Nat → PV} {S : PS} {res : WRes} {K : Kx} {w : World} {a : Act} (hm : P.follows .mixedOrders = true) (hB : anyB ops.toArray ch = true)
    (h : WalkA P N ops.toArray ch U Ut 0 ops F S false [] res) (hI : Inv K S w) (hF : FrameRep K w N F a) (hE : endQ N K w a.defers Q res) : (Code.region id ops.toArray true).wpIn (fen ro) mm P Q a w := by
  refine wpIn_region_any hm ?_
  obtain ⟨Fs, Ss, Rs, dd, h1, h2, h3, h4⟩ := h.seq (fun j => by simp)
  obtain ⟨hI', hs'⟩ := hI.below (w' := { w with drawn := w.drawn + 1 }) ⟨rfl, rfl, rfl, Nat.le_refl _, fun _ _ => rfl⟩
  have hsz : ops.toArray.size = ops.length := by simp
  refine Mid.any (res := res) (Fs := Fs) (Ss := Ss) (Rs := Rs) (dd := dd) (K0 := K) (w0 := w) (ds := a.defers) (fun j hj => h3 j (Nat.zero_le _) (by omega)) hB (by rw [h2]; exact hI) ?_ hE _ _ _ _ ?_
  · cases res with
    | done Fe Se =>
      obtain ⟨h5, h6, _⟩ := h4
      exact ⟨by rw [hsz]; simpa using h5, by rw [hsz]; simpa using h6⟩
    | panic c Sx =>
      rcases h4 with h4 | ⟨j, _, h5, h6⟩
      · cases h4
      · exact ⟨j, by omega, h6⟩
  · have hg : ∀ i, (Array.replicate ops.toArray.size false).getD i false = false := by
      intro i
      simp only [Array.getD_eq_getD_getElem?, Array.getElem?_replicate]
      split <;> rfl
    refine ⟨by simp, by simp, fun i _ hi => (by rw [hg] at hi; cases hi), fun i hi => (by rw [hg] at hi; cases hi), hF.size, rfl, K, 0, hs', by rw [h2]; exact hI', Nat.zero_le _, fun i _ _ => ⟨fun hi => (by rw [hg] at hi; cases hi), fun hi => by omega⟩, fun t => ⟨fun i _ _ hi => (by rw [hg] at hi; cases hi), fun _ => ?_⟩⟩
    rw [h1]
    exact Rep.step hs' _ _ (hF.rep t)

structure WB (P : Program) (N : Nat) (ops : Array Oper) (ch : Nat → Bool) (U Ut : Nat → List Nat) (k : Nat) (rest : List Oper) (F : Nat → PV) (S : PS) (bm : Bool) (D : List Nat) (q : WRes → Prop) : Prop where
  ex : ∃ res, WalkA P N ops ch U Ut k rest F S bm D res ∧ q res
theorem pw_regionB {P : Program} {N : Nat} {F : Nat → PV} {S : PS} {Q : Exit → (Nat → PV) → PS → Prop} {id : Nat} {ops : List Oper} (ch : Nat → Bool) (U Ut : Nat → List Nat) (hm : P.follows .mixedOrders = true) (hB : anyB ops.toArray ch = true) (h : WB P N ops.toArray ch U Ut 0 ops F S false [] (resQ Q)) : PW P N (.region id ops.toArray true) Q F S := by
  refine ⟨fun ro mm K w a hI hF => ?_⟩
  obtain ⟨res, h1, h2⟩ := h.ex
  exact wp_region_walkA hm hB h1 hI hF (endQ_of h2)
end Bw
end Go.Proofs.YtiledamgmppcmaaGreatDoor
