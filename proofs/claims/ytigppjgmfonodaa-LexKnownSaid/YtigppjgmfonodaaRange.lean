/- A law for a range over a function whose iterator may panic: the loop's record is opaque to the prover. No program in sight. -/
import Derived.RangeFuncNested
import Derived.RangeFuncCalls
namespace Go.Proofs.Ytigppjgmfonodaa
open Go.RowKit

/-- How a round may end. -/
def roundEnd (l : Nat) (ρ : LoopState → Option Code → Loop) (R : Ending → World → Prop) : Exit → Act → World → Prop
  | .normal, _, W => W.heap[l]? = some (.loop (ρ .busy none)) ∧ R (.returned (.bool true)) (W.putObj l (.loop (ρ .ready none)))
  | .ret, _, W => W.heap[l]? = some (.loop (ρ .busy none)) ∧ R (.returned (.bool false)) (W.putObj l (.loop (ρ .done (some .ret))))
  | .exit id, _, W => W.heap[l]? = some (.loop (ρ .busy none)) ∧ R (.returned (.bool false)) (W.putObj l (.loop (ρ .done (some (.exit id)))))
  | _, _, _ => False

/-- What follows the loop, by how the iterator has ended. -/
def rangeEnd (F : Fence) (n : Nat) (P : Program) (l : Nat) (ρ : LoopState → Option Code → Loop) (Q : Exit → Act → World → Prop) (a' : Act) : Ending → World → Prop
  | .returned _, W => (W.heap[l]? = some (.loop (ρ .ready none)) ∧ Q .normal a' (W.putObj l (.loop (ρ .exhausted none)))) ∨
      ∃ c, W.heap[l]? = some (.loop (ρ .done (some c))) ∧ c.wpIn F n P Q a' (W.putObj l (.loop (ρ .exhausted (some c))))
  | .panicked chain, W => Q (.panic chain) a' W
  | .outgrown, _ => LetsOut Q

theorem wpIn_rangeFunc_raw {F : Fence} {n : Nat} {P : Program} {g : Operand} {ps : Array Tmp} {assign body : Code} {Q : Exit → Act → World → Prop} {a : Act} {w : World}
    (hro : F.round = none) (h1 : 1 ≤ n) {gf : Nat} {lb : Array Value} (hg : a.eval g = .func (.func gf) #[] lb) (hFg : F.fn gf) (eg : ∀ args w, (callFunc gf args).run P w = .ok (.enter gf args) w)
    (h : ∀ (ρ : LoopState → Option Code → Loop),
      (∀ (args : Array Value) (W : World) (R : Ending → World → Prop), args.size = ps.size → W.heap[w.heap.size + 1]? = some (.loop (ρ .ready none)) →
        assign.wpIn (F.inRound (w.heap.size + 1)) (n - 1 - 1) P (Exit.then (fun a₁ w₁ => w₁.heap[w.heap.size + 1]? = some (.loop (ρ .ready none)) ∧
          body.wpIn (F.inRound (w.heap.size + 1)) (n - 1 - 1) P (roundEnd (w.heap.size + 1) ρ R) a₁ (w₁.putObj (w.heap.size + 1) (.loop (ρ .busy none)))) (fun _ _ _ => False))
          { tmps := (ps.zip args).foldl (fun t (p, v) => t.setIfInBounds p v) a.tmps, defers := [] } W →
        YieldAt F (n - 1 - 1) P (w.heap.size + 1) args W R) →
      CallsIn F (n - 1) P gf (#[.func (.yield (w.heap.size + 1)) #[] #[]] ++ lb) ((w.alloc (.deferred (some []))).alloc (.loop (ρ .ready none)))
        (rangeEnd F n P (w.heap.size + 1) ρ Q { a with defers := { target := .collected w.heap.size, args := #[] } :: a.defers })) :
    (Code.rangeFunc g ps assign body).wpIn F n P Q a w := by
  refine wpIn_rangeFunc ?_
  intro fn hfn
  rw [hro]
  obtain ⟨ρ, hρ⟩ : ∃ ρ : LoopState → Option Code → Loop, ρ = fun st pe => { state := st, pending := pe, fn, tmps := a.tmps, params := ps, assign, body, defers := w.heap.size } := ⟨_, rfl⟩
  obtain ⟨W1, hW1⟩ : ∃ W1, (w.alloc (.deferred (some []))).alloc (.loop (ρ .ready none)) = W1 := ⟨_, rfl⟩
  refine ⟨w.heap.size + 1, [{ target := .collected w.heap.size, args := #[] }], W1, { target := .fn (.func gf) lb, args := #[.func (.yield (w.heap.size + 1)) #[] #[]] }, W1, gf,
    #[.func (.yield (w.heap.size + 1)) #[] #[]] ++ lb, W1, ?_, ?_, ?_, ?_, fun _ => h1, ?_⟩
  · rw [← hW1, hρ]; exact run_enterLoop_outer _ _ _ _ _
  · simp only [resolve, hg]
    simp [go_sem]
  · intro f' hf'; simp [Target.leads] at hf'; subst hf'; exact hFg
  · simp [invoke, go_sem, eg]
  · rw [← hW1]
    refine (h ρ ?_).mono ?_
    · intro args W R hsz hl hw
      have hlt : w.heap.size + 1 < W.heap.size := (Array.getElem?_eq_some_iff.1 hl).1
      have hy := run_yield (P := P) (args := args) hl (by rw [hρ]; exact hsz)
      have e1 : ∀ st pe, (ρ st pe).fn = fn := by rw [hρ]; intros; rfl
      have e2 : ∀ st pe, (ρ st pe).tmps = a.tmps := by rw [hρ]; intros; rfl
      have e3 : ∀ st pe, (ρ st pe).params = ps := by rw [hρ]; intros; rfl
      have e4 : ∀ st pe, (ρ st pe).assign = assign := by rw [hρ]; intros; rfl
      have e5 : ∀ st pe, (ρ st pe).body = body := by rw [hρ]; intros; rfl
      have e6 : ∀ st pe st' pe', ({ ρ st pe with state := st', pending := pe' } : Loop) = ρ st' pe' := by rw [hρ]; intros; rfl
      have e7 : ∀ st pe, (ρ st pe).state = st := by rw [hρ]; intros; rfl
      have e8 : ∀ st pe st', ({ ρ st pe with state := st' } : Loop) = ρ st' pe := by rw [hρ]; intros; rfl
      have e9 : ∀ st pe, (ρ st pe).pending = pe := by rw [hρ]; intros; rfl
      rw [e1, e2, e3, e4, e5] at hy
      refine ⟨fn, _, assign, body, hy, roundIn_of_wpIn hfn (wpIn_mono hw ?_)⟩
      intro e a₁ w₁ he
      cases e with
      | normal =>
        obtain ⟨hl1, hb⟩ := he
        refine ⟨_, run_beginRound hl1 (e7 _ _), ?_⟩
        rw [e8]
        refine wpIn_mono hb ?_
        intro e a₂ w₂ he
        cases e with
        | normal => exact ⟨_, _, run_endRound none he.1, by have := he.2; simp only [Option.isNone_none, if_true, e6]; exact this⟩
        | ret => exact ⟨_, _, run_endRound (some .ret) he.1, by have := he.2; simp only [Option.isNone_some, Bool.false_eq_true, if_false, e6]; exact this⟩
        | exit id => exact ⟨_, _, run_endRound (some (.exit id)) he.1, by have := he.2; simp only [Option.isNone_some, Bool.false_eq_true, if_false, e6]; exact this⟩
        | goto t => exact he.elim
        | panic c => exact he.elim
        | outgrown => exact he.elim
      | ret => exact he.elim
      | exit id => exact he.elim
      | goto t => exact he.elim
      | panic c => exact he.elim
      | outgrown => exact he.elim
    · have e7 : ∀ st pe, (ρ st pe).state = st := by rw [hρ]; intros; rfl
      have e8 : ∀ st pe st', ({ ρ st pe with state := st' } : Loop) = ρ st' pe := by rw [hρ]; intros; rfl
      have e9 : ∀ st pe, (ρ st pe).pending = pe := by rw [hρ]; intros; rfl
      intro e W he
      cases e with
      | returned v =>
        rcases he with ⟨hl, hq⟩ | ⟨c, hl, hq⟩
        · refine ⟨none, _, by rw [run_endLoop hl (by rw [e7]; simp), e8, e9], hq⟩
        · refine ⟨some c, _, by rw [run_endLoop hl (by rw [e7]; simp), e8, e9], hq⟩
      | panicked chain => exact he
      | outgrown => exact he
end Go.Proofs.Ytigppjgmfonodaa
