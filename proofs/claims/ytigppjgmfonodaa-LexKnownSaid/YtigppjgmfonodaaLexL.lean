/- Scan of the program: what a call does. -/
import Derived.Test.YtigppjgmfonodaaLexK
import Derived.Test.YtigppjgmfonodaaRange
import Derived.Maps.AppendAt
import Derived.Shelf.Abstract
import Derived.Shelf.RegionOpen
namespace Go.Proofs.Ytigppjgmfonodaa
open Go.RowKit Go.Shelf

attribute [local go_sem] Oper.semAt_some

/-- A slice of tokens of the call's own. -/
def ToksAt (w : World) (base : Nat) (v : Value) (l : List Tok) : Prop := w.ownsRow base 23 3 v l.length (tokCells l)

def ScanPost (s : ByteArray) (w : World) (e : Ending) (w' : World) : Prop :=
  ∃ v : Value, e = .returned (.tuple #[v, .int .i64 ((scanT s.data.toList).2.1 : Int), .int .i64 (scanT s.data.toList).2.2]) ∧ ToksAt w' w.heap.size v (scanT s.data.toList).1 ∧ Below w.heap.size w w'

def Blk (W : World) (b : Nat) (v : Value) (t : TypeId) : Prop := W.heap[b]? = some (.cells #[v] t (0, 0))
theorem Blk.cell {W : World} {b : Nat} {v : Value} {t : TypeId} (h : Blk W b v t) : W.cell? ⟨b, 0, none⟩ = some v := Boxed.cell h
theorem Blk.free {W : World} {b : Nat} {v : Value} {t : TypeId} (h : Blk W b v t) : W.frozen? ⟨b, 0, none⟩ = false := Boxed.frozen h

/-- Between two rounds. -/
structure ScanJ (w : World) (ρ : Loop) (acc : List Tok) (W : World) : Prop where
  row : ∃ v, Blk W w.heap.size v 39 ∧ W.ownsRow w.heap.size 23 3 v acc.length (tokCells acc)
  at_ : Blk W (w.heap.size + 1) (.int .i64 0) 3
  err : Blk W (w.heap.size + 2) (.int .i64 0) 30
  mark : W.heap[w.heap.size + 4]? = some (.deferred (some []))
  loop : W.heap[w.heap.size + 5]? = some (.loop ρ)
  len : acc.length ≤ 2000
  below : Below w.heap.size w W
/-- A round has said that there are too many. -/
structure ScanJx (w : World) (ρ : Loop) (pos : Nat) (W : World) : Prop where
  row : Blk W w.heap.size (.slice none 0 0) 39
  at_ : Blk W (w.heap.size + 1) (.int .i64 pos) 3
  err : Blk W (w.heap.size + 2) (.int .i64 3) 30
  mark : W.heap[w.heap.size + 4]? = some (.deferred (some []))
  loop : W.heap[w.heap.size + 5]? = some (.loop ρ)
  below : Below w.heap.size w W

theorem lt_some {W : World} {b : Nat} {o : Obj} (h : W.heap[b]? = some o) : b < W.heap.size := (Array.getElem?_eq_some_iff.1 h).1
theorem grown_of_below {W W' : World} (h : Below W.heap.size W W') : W.grownBy W' none := ⟨h.os, h.tape, h.output, h.size, fun k hk _ => h.block k hk⟩
theorem below_of_grown {W W' : World} {B : Nat} {r : Option Nat} (h : W.grownBy W' r) (hB : B ≤ W.heap.size) (hr : ∀ b, r = some b → B ≤ b) : Below B W W' :=
  (Below.refl B W).grown h hB hr

theorem ScanJ.kept {w : World} {ρ : Loop} {acc : List Tok} {W W' : World} (h : ScanJ w ρ acc W) {r : Option Nat} (hg : W.grownBy W' r)
    (hr : ∀ b, r = some b → ∃ (C : Array Value) (t : TypeId), W.heap[b]? = some (.cells C t (0, 0)) ∧ t ≠ 39 ∧ t ≠ 3 ∧ t ≠ 30 ∧ t ≠ 23 ∧ w.heap.size ≤ b) : ScanJ w ρ acc W' := by
  have key : ∀ (b : Nat) (o : Obj), W.heap[b]? = some o → (∀ (C : Array Value) (t : TypeId), o = Obj.cells C t (0, 0) → t = 39 ∨ t = 3 ∨ t = 30 ∨ t = 23) → W'.heap[b]? = some o := by
    intro b o hb ho
    refine (hg.block b (lt_some hb) ?_).trans hb
    rintro e
    obtain ⟨C, t, hc, h1, h2, h3, h4, _⟩ := hr b e.symm
    rw [hb] at hc; cases hc
    rcases ho C t rfl with h | h | h | h <;> contradiction
  obtain ⟨v, hv, ho⟩ := h.row
  refine ⟨⟨v, key _ _ hv (by rintro C t e; cases e; simp), ?_⟩, key _ _ h.at_ (by rintro C t e; cases e; simp), key _ _ h.err (by rintro C t e; cases e; simp),
    key _ _ h.mark (by rintro C t e; cases e), key _ _ h.loop (by rintro C t e; cases e), h.len, h.below.grown hg h.below.size (fun b e => by obtain ⟨_, _, _, _, _, _, _, hb⟩ := hr b e; exact hb)⟩
  refine ho.kept hg ?_
  rcases ho.2 with ⟨rfl, _⟩ | ⟨g, cap, cur, rfl, hb, hh, _⟩
  · exact .inl rfl
  · refine .inr ?_
    intro e
    obtain ⟨C, t, hc, h1, h2, h3, h4, _⟩ := hr g (by rw [← e]; rfl)
    rw [hh] at hc; cases hc; exact h4 rfl

theorem rd_not_row {W : World} {b base size n : Nat} {s : ByteArray} {k : Int} {v : Value} {xs : List Value} (h : RdAt W b s k) (ho : W.ownsRow base 23 size v n xs) : v.ownBlock ≠ some b := by
  rcases ho.2 with ⟨rfl, _⟩ | ⟨g, cap, cur, rfl, hb, hh, _⟩
  · simp [Value.ownBlock]
  · intro e
    have e' : g = b := by simpa [Value.ownBlock] using e
    subst e'
    unfold RdAt at h
    rw [hh] at h; cases h

theorem info_tok : (Try.prog.info? 23).map (fun i => (i.zero, i.size, i.bytes)) = some (some (.agg #[.int .i64 0, .string ⟨#[]⟩, .int .i64 0]), 3, 32) := by kernel_rfl
theorem und_toks : Try.prog.underlying 39 = some (.slice 23) := by kernel_rfl

def scanW (w : World) (s : ByteArray) : World := (((w.alloc (.cells #[.slice none 0 0] 39)).alloc (.cells #[.int .i64 0] 3)).alloc (.cells #[.int .i64 0] 30)).alloc (.cells #[.string s] 9)
theorem scanW_size (w : World) (s : ByteArray) : (scanW w s).heap.size = w.heap.size + 4 := by simp [scanW]
theorem scanW_below (w : World) (s : ByteArray) : Below w.heap.size w (scanW w s) :=
  ((((Below.refl _ _).alloc (Nat.le_refl _) _).alloc (by simp) _).alloc (by simp; omega) _).alloc (by simp; omega) _
theorem heap_alloc_at {w : World} {o : Obj} {b : Nat} (h : b = w.heap.size) : (w.alloc o).heap[b]? = some o := by subst h; exact heap_alloc_new w o
theorem heap_alloc_lt {w : World} {o o' : Obj} {b : Nat} (h : w.heap[b]? = some o') : (w.alloc o).heap[b]? = some o' := (Below.heap_alloc w o b (lt_some h)).trans h
theorem scanW_str (w : World) (s : ByteArray) : Blk (scanW w s) (w.heap.size + 3) (.string s) 9 := heap_alloc_at (by simp)
theorem scanJ_start (w : World) (s : ByteArray) (ρ : Loop) : ScanJ w ρ [] (((scanW w s).alloc (.deferred (some []))).alloc (.loop ρ)) := by
  refine ⟨⟨_, heap_alloc_lt (heap_alloc_lt (heap_alloc_lt (heap_alloc_lt (heap_alloc_lt (heap_alloc_at rfl))))), World.ownsRow_nil _ _ _ _⟩, heap_alloc_lt (heap_alloc_lt (heap_alloc_lt (heap_alloc_lt (heap_alloc_at (by simp))))),
    heap_alloc_lt (heap_alloc_lt (heap_alloc_lt (heap_alloc_at (by simp)))), heap_alloc_lt (heap_alloc_at (by simp [scanW_size])), heap_alloc_at (by simp [scanW_size]), by simp, ?_⟩
  exact ((scanW_below w s).alloc (by simp [scanW_size]) _).alloc (by simp [scanW_size]; omega) _

/-- Readers lie as they lay. -/
def KR (W W' : World) : Prop := ∀ (b : Nat) (C : Array Value) (f : Nat × Nat), W.heap[b]? = some (.cells C 97 f) → W'.heap[b]? = some (.cells C 97 f)
theorem KR.refl (W : World) : KR W W := fun _ _ _ h => h
theorem KR.trans {A B C : World} (h : KR A B) (k : KR B C) : KR A C := fun b c f hb => k b c f (h b c f hb)
theorem KR.rd {W W' : World} (h : KR W W') : KeepsRd W W' := fun b _ _ hb => h b _ _ hb
theorem KR.grown {W W' : World} {r : Option Nat} (hg : W.grownBy W' r) (hr : ∀ b, r = some b → ∃ o, W.heap[b]? = some o ∧ ∀ (C : Array Value) (f : Nat × Nat), o ≠ Obj.cells C 97 f) : KR W W' := by
  intro b C f hb
  refine (hg.block b (lt_some hb) ?_).trans hb
  intro e
  obtain ⟨o, ho, hn⟩ := hr b e.symm
  rw [hb] at ho; cases ho
  exact hn C f rfl
theorem KR.put {W : World} {l : Nat} {ρ : Loop} (o' : Obj) (h : W.heap[l]? = some (.loop ρ)) : KR W (W.putObj l o') :=
  KR.grown (grownBy_putObj' W l o') (fun b e => by cases e; exact ⟨_, h, fun _ _ e => by cases e⟩)
theorem KR.set {W : World} {b : Nat} {t : TypeId} {u : Value} (v : Value) (h : Boxed W b t u) (ht : t ≠ 97) : KR W (W.setCell ⟨b, 0, none⟩ v) :=
  KR.grown (grownBy_setCell' W b v) (fun b' e => by cases e; exact ⟨_, h, fun _ _ e => by cases e; exact ht rfl⟩)
theorem KR.alloc (W : World) (o : Obj) : KR W (W.alloc o) := fun _ _ _ hb => heap_alloc_lt hb

theorem blk_put {W : World} {b l : Nat} {o o' : Obj} (h : W.heap[b]? = some o) (hne : b ≠ l) : (W.putObj l o').heap[b]? = some o := (World.putObj_heap_other hne).trans h
theorem ScanJ.put {w : World} {ρ : Loop} {acc : List Tok} {W : World} (h : ScanJ w ρ acc W) (ρ' : Loop) : ScanJ w ρ' acc (W.putObj (w.heap.size + 5) (.loop ρ')) := by
  obtain ⟨v, hv, ho⟩ := h.row
  refine ⟨⟨v, blk_put hv (by omega), ownsRow_putObj ho _ h.loop rfl⟩, blk_put h.at_ (by omega), blk_put h.err (by omega), blk_put h.mark (by omega), World.putObj_heap_same (lt_some h.loop), h.len, ?_⟩
  exact h.below.grown (grownBy_putObj' W _ _) h.below.size (fun b e => by cases e; omega)
theorem ScanJx.put {w : World} {ρ : Loop} {pos : Nat} {W : World} (h : ScanJx w ρ pos W) (ρ' : Loop) : ScanJx w ρ' pos (W.putObj (w.heap.size + 5) (.loop ρ')) := by
  refine ⟨blk_put h.row (by omega), blk_put h.at_ (by omega), blk_put h.err (by omega), blk_put h.mark (by omega), World.putObj_heap_same (lt_some h.loop), ?_⟩
  exact h.below.grown (grownBy_putObj' W _ _) h.below.size (fun b e => by cases e; omega)

theorem set_other {W : World} {b b' : Nat} {o : Obj} (h : W.heap[b]? = some o) (hne : b ≠ b') (v : Value) : (W.setCell ⟨b', 0, none⟩ v).heap[b]? = some o := (Below.heap_setCell W ⟨b', 0, none⟩ v b hne).trans h

theorem ScanJ.appended {w : World} {ρ : Loop} {acc : List Tok} {W2 w1 : World} {v v' : Value} {tmp : Obj} (t : Tok) (h : ScanJ w ρ acc W2) (hv : Blk W2 w.heap.size v 39)
    (hrow : W2.ownsRow w.heap.size 23 3 v acc.length (tokCells acc)) (hown' : w1.ownsRow w.heap.size 23 3 v' (acc.length + 1) (tokCells acc ++ t.cells))
    (hgrow : (W2.alloc tmp).grownBy w1 v.ownBlock) (hlen : acc.length ≠ 2000) :
    Boxed w1 w.heap.size 39 v ∧ ScanJ w ρ (acc ++ [t]) (w1.setCell ⟨w.heap.size, 0, none⟩ v') ∧ KR W2 (w1.setCell ⟨w.heap.size, 0, none⟩ v') := by
  obtain ⟨hv1, hv2, hr2, hk2, hb2⟩ := Boxed.appended hv (by decide) hrow h.below.size (Nat.le_refl _) hown' hgrow
  have hs : ∀ (b : Nat) (u : Value) (ty : TypeId), Blk W2 b u ty → ty ≠ 23 → b ≠ w.heap.size → Blk (w1.setCell ⟨w.heap.size, 0, none⟩ v') b u ty := by
    intro b u ty hb ht hne
    have h1 : Boxed w1 b ty u := (Boxed.alloc hb tmp).kept hgrow (Boxed.not_row hb ht hrow)
    exact set_other h1 hne v'
  refine ⟨hv1, ⟨⟨v', hv2, by rw [tokCells_snoc, List.length_append]; exact hr2⟩, hs _ _ _ h.at_ (by decide) (by omega), hs _ _ _ h.err (by decide) (by omega), hk2.same _ _ h.mark rfl, hk2.same _ _ h.loop rfl,
    by rw [List.length_append]; have := h.len; simp; omega, h.below.trans hb2⟩, ?_⟩
  refine ((KR.alloc W2 tmp).trans (KR.grown hgrow ?_)).trans (KR.set v' hv1 (by decide))
  intro b e
  rcases hrow.2 with ⟨rfl, _⟩ | ⟨g, cap, cur, rfl, _, hh, _⟩
  · simp [Value.ownBlock] at e
  · obtain rfl : g = b := by simpa [Value.ownBlock] using e
    exact ⟨_, heap_alloc_lt hh, fun C f e => by cases e⟩

/-- The deferred call of Scan, where nothing has panicked; and what is handed back. -/
theorem scan_leave (w X : World) (tmps : Array Value) (v : Value) (toks : List Tok) (pos : Nat) (err : Int) (R : Ending → World → Prop)
    (h0 : Blk X w.heap.size v 39) (h1 : Blk X (w.heap.size + 1) (.int .i64 pos) 3) (h2 : Blk X (w.heap.size + 2) (.int .i64 err) 30)
    (hm : X.heap[w.heap.size + 4]? = some (.deferred (some []))) (ho : ToksAt X w.heap.size v toks) (hb : Below w.heap.size w X)
    (hres : ∀ X' : World, X'.cell? ⟨w.heap.size, 0, none⟩ = some v → X'.cell? ⟨w.heap.size + 1, 0, none⟩ = some (.int .i64 pos) → X'.cell? ⟨w.heap.size + 2, 0, none⟩ = some (.int .i64 err) →
      (results Try.f20 tmps).run Try.prog X' = .ok (.tuple #[v, .int .i64 pos, .int .i64 err]) X')
    (hR : ∀ X', ToksAt X' w.heap.size v toks → Below w.heap.size w X' → R (.returned (.tuple #[v, .int .i64 pos, .int .i64 err])) X') :
    LeavesInM Fence.wide 6 Try.prog Try.f20 tmps R [{ target := .collected (w.heap.size + 4), args := #[] }, { target := .fn (.func 35) #[.pointer (some ⟨w.heap.size, 0, none⟩), .pointer (some ⟨w.heap.size + 1, 0, none⟩), .pointer (some ⟨w.heap.size + 2, 0, none⟩)], args := #[] }] .returning X := by
  refine ⟨by simp, .inl ⟨_, _, rfl, run_takeDeferred hm, ?_⟩⟩
  have h0' := blk_put (o' := .deferred none) h0 (show w.heap.size ≠ w.heap.size + 4 by omega)
  have h1' := blk_put (o' := .deferred none) h1 (show w.heap.size + 1 ≠ w.heap.size + 4 by omega)
  have h2' := blk_put (o' := .deferred none) h2 (show w.heap.size + 2 ≠ w.heap.size + 4 by omega)
  have ho' : ToksAt (X.putObj (w.heap.size + 4) (.deferred none)) w.heap.size v toks := ownsRow_putObj ho _ hm rfl
  have hb' := hb.grown (grownBy_putObj' X (w.heap.size + 4) (.deferred none)) hb.size (fun b e => by cases e; omega)
  refine ⟨by simp, .inr ⟨by simp [Fence.wide], .func 35, _, 35, #[.pointer (some ⟨w.heap.size, 0, none⟩), .pointer (some ⟨w.heap.size + 1, 0, none⟩), .pointer (some ⟨w.heap.size + 2, 0, none⟩)], rfl, by simp [go_sem], fun _ _ => trivial, ?_⟩⟩
  refine (scan1_idle _ _ _ _ _).mono ?_
  rintro e u' X2 ⟨rfl, rfl, hb2⟩
  refine ⟨_, hres X2 (Blk.cell ((hb2.block _ (lt_some h0')).trans h0')) (Blk.cell ((hb2.block _ (lt_some h1')).trans h1')) (Blk.cell ((hb2.block _ (lt_some h2')).trans h2')), ?_⟩
  exact hR X2 (ho'.kept (grown_of_below hb2) (by rcases ho'.2 with ⟨rfl, _⟩ | ⟨g, cap, cur, rfl, _⟩ <;> simp [Value.ownBlock])) (hb'.trans (hb2.mono hb'.size))

theorem ScanJ.stored {w X : World} {ρ : Loop} {acc : List Tok} {v : Value} (h : ScanJ w ρ acc X) (hv : Blk X w.heap.size v 39) (hrow : X.ownsRow w.heap.size 23 3 v acc.length (tokCells acc)) (R : World → Prop)
    (k : ∀ Y, Blk Y w.heap.size v 39 → Blk Y (w.heap.size + 1) (.int .i64 0) 3 → Blk Y (w.heap.size + 2) (.int .i64 0) 30 → Y.heap[w.heap.size + 4]? = some (.deferred (some [])) → ToksAt Y w.heap.size v acc → Below w.heap.size w Y → R Y) :
    R (((X.setCell ⟨w.heap.size, 0, none⟩ v).setCell ⟨w.heap.size + 1, 0, none⟩ (.int .i64 0)).setCell ⟨w.heap.size + 2, 0, none⟩ (.int .i64 0)) := by
  have b1 : Boxed (X.setCell ⟨w.heap.size, 0, none⟩ v) (w.heap.size + 1) 3 (.int .i64 0) := set_other h.at_ (by omega) _
  have b2 : Boxed (X.setCell ⟨w.heap.size, 0, none⟩ v) (w.heap.size + 2) 30 (.int .i64 0) := set_other h.err (by omega) _
  have b2' : Boxed ((X.setCell ⟨w.heap.size, 0, none⟩ v).setCell ⟨w.heap.size + 1, 0, none⟩ (.int .i64 0)) (w.heap.size + 2) 30 (.int .i64 0) := set_other b2 (by omega) _
  have r1 := hrow.kept (grownBy_setCell' X w.heap.size v) (.inr (Boxed.not_row hv (by decide) hrow).symm)
  have r2 := r1.kept (grownBy_setCell' _ (w.heap.size + 1) (.int .i64 0)) (.inr (Boxed.not_row b1 (by decide) r1).symm)
  have r3 := r2.kept (grownBy_setCell' _ (w.heap.size + 2) (.int .i64 0)) (.inr (Boxed.not_row b2' (by decide) r2).symm)
  refine k _ (set_other (set_other (Boxed.set _ hv) (by omega) _) (by omega) _) (set_other (Boxed.set _ b1) (by omega) _) (Boxed.set _ b2') (set_other (set_other (set_other h.mark (by omega) _) (by omega) _) (by omega) _) r3 ?_
  exact ((h.below.setCell (p := ⟨w.heap.size, 0, none⟩) (Nat.le_refl _) _).setCell (p := ⟨w.heap.size + 1, 0, none⟩) (Nat.le_succ _) _).setCell (p := ⟨w.heap.size + 2, 0, none⟩) (by show _ ≤ _ + 2; omega) _
theorem scanT_short {l : List UInt8} (h : l.length ≤ 20000) : scanT l = scanG l.length (l.length + 1) l [] := by unfold scanT; rw [if_neg (by omega)]

theorem scanG_ok (n f : Nat) (l : List UInt8) (acc : List Tok) (h : (scanG n f l acc).2.2 = 0) : (scanG n f l acc).2.1 = 0 := by
  induction f generalizing l acc with
  | zero => rfl
  | succ f ih =>
    rw [scanG] at h ⊢
    split
    · rfl
    · rename_i h1
      rw [if_neg h1] at h
      split
      · rename_i h2; rw [if_pos h2] at h; simp at h
      · rename_i h2
        rw [if_neg h2] at h
        split
        · rename_i h3; rw [if_pos h3] at h; simp at h
        · rename_i h3; rw [if_neg h3] at h; exact ih _ _ h

set_option maxRecDepth 100000 in
set_option maxHeartbeats 4000000 in
theorem scan_short (s : ByteArray) (w : World) (hs : s.size ≤ 20000) : Calls Try.prog 20 #[.string s] w (ScanPost s w) := by
  refine (callsIn_wide (n := 6)).1 ?_
  have hmf : ∀ (fn : Fn) (first cap : Array Value) (w : World), (Instr.makeFunc fn first cap).run Try.prog w = .ok (.func fn first cap) w := fun _ _ _ _ => rfl
  refine callsIn_of_wp_marks Try.func20 rfl trivial ?_ rfl
  simp only [Try.ntmps20, List.size_toArray, List.length_cons, List.length_nil, Nat.reduceAdd, Nat.reduceSub, Array.replicate_succ, Array.replicate_zero, List.push_toArray, List.append_toArray, List.nil_append, List.cons_append]
  have hdec : decide (20000 < (s.size : Int)) = false := by simp; omega
  gi_wp2_with fail
  refine ⟨trivial, (callsIn_wide.2 (tokens_any s _)).mono ?_⟩
  rintro e w' ⟨rfl, rfl⟩
  gi_wp2
  refine wpIn_rangeFunc_raw rfl (by omega) (gf := 53) (lb := #[.pointer (some ⟨w.heap.size + 3, 0, none⟩)]) rfl trivial (enters_of Try.func53 (by kernel_rfl) rfl) ?_
  intro ρ hround
  have esz : ((((w.alloc (.cells #[.slice none 0 0] 39)).alloc (.cells #[.int .i64 0] 3)).alloc (.cells #[.int .i64 0] 30)).alloc (.cells #[.string s] 9)).heap.size = w.heap.size + 4 := scanW_size w s
  rw [esz] at hround ⊢
  simp only [Nat.add_assoc, Nat.reduceAdd] at hround ⊢
  have HJ0 := Lib.hid (scanJ_start w s (ρ .ready none))
  clear esz hmf
  refine (tokens1_any 4 (w.heap.size + 5) (w.heap.size + 3) s (ScanJ w (ρ .ready none)) (ScanJx w (ρ .done (some .ret))) _ hs ?_ ?_ ?_ ?_ HJ0.out).mono ?_
  · exact Blk.cell (heap_alloc_lt (heap_alloc_lt (scanW_str w s)))
  · intro acc W W' hJ hb
    exact hJ.kept (grown_of_below hb) (fun b e => by cases e)
  · intro acc W W' b k hle hJ hR hg
    refine hJ.kept hg ?_
    rintro b' e
    cases e
    exact ⟨_, _, hR, by decide, by decide, by decide, by decide, by simp [scanW_size] at hle; omega⟩
  · rintro acc ⟨kd, tl, pos⟩ W hJ
    show YieldAt Fence.wide 4 Try.prog (w.heap.size + 5) #[.agg #[.int .i64 kd, .string (bytesOf tl), .int .i64 (pos : Int)]] W _
    refine hround #[.agg #[.int .i64 kd, .string (bytesOf tl), .int .i64 (pos : Int)]] W _ rfl hJ.loop ?_
    clear hround
    gi_wp2
    have ht0 : TokAt (W.alloc (.cells #[.int .i64 kd, .string (bytesOf tl), .int .i64 (pos : Int)] 23)) W.heap.size kd (bytesOf tl) pos := heap_alloc_new W _
    have hJ1 : ScanJ w (ρ .ready none) acc (W.alloc (.cells #[.int .i64 kd, .string (bytesOf tl), .int .i64 (pos : Int)] 23)) := hJ.kept (grown_of_below ((Below.refl _ _).alloc (Nat.le_refl _) _)) (fun b e => by cases e)
    refine ⟨hJ1.loop, ?_⟩
    refine wpIn_world (G := fun W2 => TokAt W2 W.heap.size kd (bytesOf tl) pos ∧ ScanJ w (ρ .busy none) acc W2 ∧ W.grownBy W2 (some (w.heap.size + 5)) ∧ W.heap.size < W2.heap.size) ⟨?_, ?_, ?_, by simp⟩ ?_
    · exact blk_put ht0 (by have := lt_some hJ.loop; omega)
    · exact hJ1.put _
    · exact ⟨rfl, rfl, rfl, by simp, fun k hk hne => (World.putObj_heap_other (by simpa using hne)).trans (Below.heap_alloc W _ k hk)⟩
    rintro W2 ⟨hT, hJ2, hg2, hlt2⟩
    obtain ⟨v, hv, hrow⟩ := hJ2.row
    obtain ⟨pp, cap, rfl⟩ := ownsRow_form hrow
    have c0 := hv.cell
    have c1 := hJ2.at_.cell
    have c2 := hJ2.err.cell
    have f0 := hv.free
    have f1 := hJ2.at_.free
    have f2 := hJ2.err.free
    have t0 := hT.cells
    have hlen := hJ2.len
    have hlw := hJ2.below.size
    have hsz := lt_some hJ2.loop
    have HJ2 := Lib.hid hJ2
    have HT := Lib.hid hT
    have HG := Lib.hid hg2
    have HV := Lib.hid hv
    have HROW := Lib.hid hrow
    have HLP := Lib.hid hJ.loop
    clear hJ2 hT hg2 hv hrow hJ hJ1 ht0 hdec
    by_cases h2000 : acc.length = 2000
    · have hd : ((acc.length : Int) == 2000) = true := by rw [h2000]; rfl
      have H2 := Lib.hid h2000
      clear h2000
      have hmix : Try.prog.follows .mixedOrders = true := by kernel_rfl
      have HX : Hid (ScanJx w (ρ .busy none) pos ((((W2.setCell ⟨w.heap.size, 0, none⟩ (.slice none 0 0)).setCell ⟨w.heap.size + 1, 0, none⟩ (.int .i64 (pos : Int))).setCell ⟨w.heap.size + 2, 0, none⟩ (.int .i64 3)).drew)) := Lib.hid (by
        have h := HJ2.out
        have hr := HV.out
        refine ⟨?_, ?_, ?_, ?_, ?_, ?_⟩
        · exact set_other (set_other (Boxed.set _ hr) (by omega) _) (by omega) _
        · exact set_other (Boxed.set _ (set_other h.at_ (by omega) _)) (by omega) _
        · exact Boxed.set _ (set_other (set_other h.err (by omega) _) (by omega) _)
        · exact set_other (set_other (set_other h.mark (by omega) _) (by omega) _) (by omega) _
        · exact set_other (set_other (set_other h.loop (by omega) _) (by omega) _) (by omega) _
        · exact (((h.below.setCell (p := ⟨w.heap.size, 0, none⟩) (Nat.le_refl _) _).setCell (p := ⟨w.heap.size + 1, 0, none⟩) (Nat.le_succ _) _).setCell (p := ⟨w.heap.size + 2, 0, none⟩) (by show _ ≤ _ + 2; omega) _).drew)
      gi_wp2
      gi_region_with_o (fail)
      all_goals gi_wp2
      all_goals exact ⟨HX.out.loop, .inr ⟨H2.out, rfl, HX.out.put _⟩⟩
    · have hd : ((acc.length : Int) == 2000) = false := by simp; omega
      obtain ⟨i0, hi, hz0, hz1, hz2⟩ := info_parts info_tok
      gi_wp2_with (gi_at_builtin; refine wpListIn_append_own _ rfl _ _ 39 rfl w.heap.size 23 i0 (.agg #[.int .i64 0, .string ⟨#[]⟩, .int .i64 0]) 3 32 und_toks hi hz0 hz1 hz2 rfl (by decide) _ _ _ rfl (HROW.out.alloc _) ⟨W2.heap.size, 0, none⟩ 1 1 [.int .i64 kd, .string (bytesOf tl), .int .i64 (pos : Int)] rfl rfl (cells_new _ _ _) (by simp [Value.oneCell']) (by simp [maxLen]; omega) (by omega) (by simp; omega) ?_; intro v' w1 hown' hgrow _; obtain ⟨g', cap', rfl⟩ := ownsRow_succ hown'; obtain ⟨hv1, hJ3, hkr⟩ := HJ2.out.appended ⟨kd, tl, pos⟩ HV.out HROW.out hown' hgrow h2000; have hc1 := hv1.cell; have hf1 := hv1.frozen)
      have hk1 : KR W W2 := KR.grown HG.out (fun b e => by cases e; exact ⟨_, HLP.out, fun _ _ e => by cases e⟩)
      exact ⟨hJ3.loop, .inl ⟨h2000, rfl, hJ3.put _, ((hk1.trans hkr).trans (KR.put _ hJ3.loop)).rd⟩⟩
  · have hsc : scanT s.data.toList = scanG s.data.toList.length (s.data.toList.length + 1) s.data.toList [] := scanT_short (by simpa using hs)
    have HR : ∀ e X, ScanPost s w e X ↔ ∃ v : Value, e = .returned (.tuple #[v, .int .i64 ((scanG s.data.toList.length (s.data.toList.length + 1) s.data.toList []).2.1 : Int), .int .i64 (scanG s.data.toList.length (s.data.toList.length + 1) s.data.toList []).2.2]) ∧ ToksAt X w.heap.size v (scanG s.data.toList.length (s.data.toList.length + 1) s.data.toList []).1 ∧ Below w.heap.size w X := by
      intro e X; rw [← hsc]; exact Iff.rfl
    have HR2 := Lib.hid HR
    clear HR hsc
    intro e W hW
    have HW := Lib.hid hW
    unfold SeqPost at HW
    clear hW
    have hok := scanG_ok s.data.toList.length (s.data.toList.length + 1) s.data.toList []
    obtain ⟨r, hr⟩ : ∃ r, scanG s.data.toList.length (s.data.toList.length + 1) s.data.toList [] = r := ⟨_, rfl⟩
    rw [hr] at HW HR2 hok
    have HOK := Lib.hid hok
    clear hr hok
    rcases HW.out with ⟨h0, rfl, hJ⟩ | ⟨h3, hnil, rfl, hJ⟩ | ⟨h340, hnil, rfl, acc, hJ⟩
    · have HS := Lib.hid h0
      have hscan1 : r.2.2 = 0 := h0
      refine .inl ⟨hJ.loop, ?_⟩
      have hJ' := hJ.put (ρ .exhausted none)
      obtain ⟨v, hv, hrow⟩ := hJ'.row
      obtain ⟨pp, cap, rfl⟩ := ownsRow_form hrow
      have c0 := hv.cell
      have c1 := hJ'.at_.cell
      have c2 := hJ'.err.cell
      have f0 := hv.free
      have f1 := hJ'.at_.free
      have f2 := hJ'.err.free
      have HJ' := Lib.hid hJ'
      have HV := Lib.hid hv
      have HROW := Lib.hid hrow
      clear hv hrow hJ' hJ hround HJ0 h0 hscan1
      gi_wp2
      refine ScanJ.stored HJ'.out HV.out HROW.out (bodyPostM Fence.wide 6 Try.prog Try.f20 (ScanPost s w) .ret _) ?_
      intro Y y0 y1 y2 ym yo yb
      refine scan_leave w Y _ _ r.1 0 0 _ y0 y1 y2 ym yo yb ?_ ?_
      · intro X' q0 q1 q2
        simp [results, Try.results20, go_sem, q0, q1, q2]
      · intro X' hX hB
        exact (HR2.out _ _).2 ⟨_, by rw [HOK.out HS.out, HS.out], hX, hB⟩
    · refine .inr ⟨_, hJ.loop, ?_⟩
      have hx := hJ.put (ρ .exhausted (some .ret))
      have HX := Lib.hid hx
      have H3 := Lib.hid h3
      have HN := Lib.hid hnil
      clear hx hJ hround HJ0 h3 hnil
      gi_wp2
      refine scan_leave w _ _ _ [] r.2.1 3 _ HX.out.row HX.out.at_ HX.out.err HX.out.mark (World.ownsRow_nil _ _ _ _) HX.out.below ?_ ?_
      · intro X' q0 q1 q2
        simp [results, Try.results20, go_sem, q0, q1, q2]
      · intro X' hX hB
        refine (HR2.out _ _).2 ⟨_, by rw [H3.out], by rw [HN.out]; exact hX, hB⟩
    · have H3 := Lib.hid h340
      have HN := Lib.hid hnil
      obtain ⟨v, hv, hrow⟩ := hJ.row
      refine ⟨by simp, .inl ⟨_, _, rfl, run_takeDeferred hJ.mark, ?_⟩⟩
      have y0 := blk_put (o' := .deferred none) hv (show w.heap.size ≠ w.heap.size + 4 by omega)
      have y1 := blk_put (o' := .deferred none) hJ.at_ (show w.heap.size + 1 ≠ w.heap.size + 4 by omega)
      have y2 := blk_put (o' := .deferred none) hJ.err (show w.heap.size + 2 ≠ w.heap.size + 4 by omega)
      have hb' := hJ.below.grown (grownBy_putObj' W (w.heap.size + 4) (.deferred none)) hJ.below.size (fun b e => by cases e; omega)
      have hsz := lt_some y2
      refine ⟨by simp, .inr ⟨by simp [Fence.wide], .func 35, _, 35, #[.pointer (some ⟨w.heap.size, 0, none⟩), .pointer (some ⟨w.heap.size + 1, 0, none⟩), .pointer (some ⟨w.heap.size + 2, 0, none⟩)], rfl, by simp [go_sem], fun _ _ => trivial, ?_⟩⟩
      refine (scan1_bad _ w.heap.size r.2.1 [] _ v _ _ (Blk.cell y0) (Blk.cell y1) (Blk.cell y2) (Blk.free y0) (Blk.free y1) (Blk.free y2) hsz).mono ?_
      rintro e u' X2 ⟨rfl, rfl, w2, hb2, rfl⟩
      have z0 := (hb2.block _ (lt_some y0)).trans y0
      have z1 := (hb2.block _ (lt_some y1)).trans y1
      have z2 := (hb2.block _ (lt_some y2)).trans y2
      have q0 : Blk (((w2.setCell ⟨w.heap.size, 0, none⟩ (.slice none 0 0)).setCell ⟨w.heap.size + 1, 0, none⟩ (.int .i64 r.2.1)).setCell ⟨w.heap.size + 2, 0, none⟩ (.int .i64 340)).drew w.heap.size (.slice none 0 0) 39 := set_other (set_other (Boxed.set _ z0) (by omega) _) (by omega) _
      have q1 : Blk (((w2.setCell ⟨w.heap.size, 0, none⟩ (.slice none 0 0)).setCell ⟨w.heap.size + 1, 0, none⟩ (.int .i64 r.2.1)).setCell ⟨w.heap.size + 2, 0, none⟩ (.int .i64 340)).drew (w.heap.size + 1) (.int .i64 r.2.1) 3 := set_other (Boxed.set _ (set_other z1 (by omega) _)) (by omega) _
      have q2 : Blk (((w2.setCell ⟨w.heap.size, 0, none⟩ (.slice none 0 0)).setCell ⟨w.heap.size + 1, 0, none⟩ (.int .i64 r.2.1)).setCell ⟨w.heap.size + 2, 0, none⟩ (.int .i64 340)).drew (w.heap.size + 2) (.int .i64 340) 30 := Boxed.set _ (set_other (set_other z2 (by omega) _) (by omega) _)
      refine ⟨.tuple #[.slice none 0 0, .int .i64 r.2.1, .int .i64 340], ?_, (HR2.out _ _).2 ⟨.slice none 0 0, by rw [H3.out], by rw [HN.out]; exact World.ownsRow_nil _ _ _ _, ?_⟩⟩
      · have p0 := Blk.cell q0
        have p1 := Blk.cell q1
        have p2 := Blk.cell q2
        generalize (((w2.setCell ⟨w.heap.size, 0, none⟩ (.slice none 0 0)).setCell ⟨w.heap.size + 1, 0, none⟩ (.int .i64 r.2.1)).setCell ⟨w.heap.size + 2, 0, none⟩ (.int .i64 340)).drew = Y at p0 p1 p2 ⊢
        simp [results, Try.results20, go_sem, p0, p1, p2]
      · exact (((hb'.trans (hb2.mono hb'.size)).setCell (p := ⟨w.heap.size, 0, none⟩) (Nat.le_refl _) _).setCell (p := ⟨w.heap.size + 1, 0, none⟩) (Nat.le_succ _) _).setCell (p := ⟨w.heap.size + 2, 0, none⟩) (by show _ ≤ _ + 2; omega) _ |>.drew

set_option maxRecDepth 100000 in
set_option maxHeartbeats 1000000 in
theorem scan_long (s : ByteArray) (w : World) (hs : 20000 < s.size) : Calls Try.prog 20 #[.string s] w (ScanPost s w) := by
  go_enter Try.func20, Try.ntmps20
  have hdec : decide (20000 < (s.size : Int)) = true := by simp; omega
  go_wp2
  have hsc : scanT s.data.toList = ([], 0, 3) := by unfold scanT; rw [if_pos (by simpa using hs)]
  refine bodyPost_ret (v := .tuple #[.slice none 0 0, .int .i64 0, .int .i64 3]) (by simp [results, Try.results20, go_sem]) rfl ?_
  refine ⟨.slice none 0 0, by rw [hsc]; rfl, by rw [hsc]; exact World.ownsRow_nil _ _ _ _, ?_⟩
  exact (((Below.refl _ _).alloc (Nat.le_refl _) _).alloc (by simp) _).alloc (by simp; omega) _

theorem scan_any (s : ByteArray) (w : World) : Calls Try.prog 20 #[.string s] w (ScanPost s w) := by
  rcases Nat.lt_or_ge 20000 s.size with h | h
  · exact scan_long s w h
  · exact scan_short s w h
end Go.Proofs.Ytigppjgmfonodaa
