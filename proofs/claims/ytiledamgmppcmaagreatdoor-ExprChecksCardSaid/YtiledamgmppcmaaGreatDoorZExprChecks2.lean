/- A part of the proof of ExprChecks: texts of this claim, merged. -/
import Derived.Test.YtiledamgmppcmaaGreatDoorProg
import Derived.Shelf.Abstract
import Derived.Test.YtiledamgmppcmaaGreatDoorRows
import Derived.WalkKit
import Derived.Carry
import Derived.Lib.LaidU8
import Derived.Lib.LaidTab
import Derived.Lay
import Derived.MakeChecks
import Derived.Below
import Derived.Laws.Strings
import Derived.WalkSpells
import Derived.WalkLawsBesides
import Derived.Laws.EntriesVeiled
import Derived.BigQuiet
import Derived.Deep.RegionHeld3
import Derived.Deep.QuietTactic
import Derived.Lib.Hide
import Derived.Test.YtiledamgmppcmaaGreatDoorZExprChecks1
/-! PlN -/
namespace Go.Proofs.YtiledamgmppcmaaGreatDoor
open Go.RowKit

mutual
/-- Boxes and rows by other numbers. -/
def PV.ren (fb ft : Nat → Nat) : PV → PV
  | .ptr id off => .ptr (fb id) off
  | .bsl k id off n cap => .bsl k (fb id) off n cap
  | .hd t n => .hd (ft t) n
  | .agg l => .agg (PV.renL fb ft l)
  | .tup l => .tup (PV.renL fb ft l)
  | .fn f l => .fn f (PV.renL fb ft l)
  | .any => .any
  | .un => .un
  | .d c => .d c
  | .ep l => .ep l
def PV.renL (fb ft : Nat → Nat) : List PV → List PV
  | [] => []
  | p :: r => PV.ren fb ft p :: PV.renL fb ft r
end
mutual
theorem Rep.ren {K K0 : Kx} {w : World} {fb ft : Nat → Nat} (hβ : ∀ id b, K0.β[id]? = some b → K.β[fb id]? = some b) (hτ : ∀ t c, K0.τ[t]? = some c → K.τ[ft t]? = some c) (hg : ∀ b hi, K0.good w b hi → K.good w b hi) :
    ∀ (p : PV) (u : Value), Rep K0 w p u → Rep K w (p.ren fb ft) u
  | .any, u => by simp [Rep, PV.ren]
  | .un, u => by simp [Rep, PV.ren]
  | .d c, u => by simp only [Rep, PV.ren]; exact RepD.mono (fun b hi h => ⟨hg b hi h, fun _ _ => rfl⟩) c u
  | .agg l, u => by
    simp only [Rep, PV.ren]
    rintro ⟨cs, h1, h2⟩
    exact ⟨cs, h1, RepL.ren hβ hτ hg l cs h2⟩
  | .tup l, u => by
    simp only [Rep, PV.ren]
    rintro ⟨cs, h1, h2⟩
    exact ⟨cs, h1, RepL.ren hβ hτ hg l cs h2⟩
  | .ptr id off, u => by
    simp only [Rep, PV.ren]
    rintro ⟨b, h1, h2⟩
    exact ⟨b, hβ _ _ h1, h2⟩
  | .ep l, u => by
    simp only [Rep, PV.ren]
    rintro ⟨b, o, h1, h2, h3⟩
    exact ⟨b, o, h1, hg _ _ h2, CellsD.mono (fun b hi h => ⟨hg b hi h, fun _ _ => rfl⟩) l b o (fun _ _ => rfl) h3⟩
  | .hd t n, u => by
    simp only [Rep, PV.ren]
    rintro ⟨c, h1, h2⟩
    exact ⟨c, hτ _ _ h1, h2⟩
  | .bsl k id off n cap, u => by
    simp only [Rep, PV.ren]
    rintro ⟨b, h1, h2⟩
    exact ⟨b, hβ _ _ h1, h2⟩
  | .fn f caps, u => by
    simp only [Rep, PV.ren]
    rintro ⟨cs, h1, h2⟩
    exact ⟨cs, h1, RepL.ren hβ hτ hg caps cs h2⟩
theorem RepL.ren {K K0 : Kx} {w : World} {fb ft : Nat → Nat} (hβ : ∀ id b, K0.β[id]? = some b → K.β[fb id]? = some b) (hτ : ∀ t c, K0.τ[t]? = some c → K.τ[ft t]? = some c) (hg : ∀ b hi, K0.good w b hi → K.good w b hi) :
    ∀ (l : List PV) (us : List Value), RepL K0 w l us → RepL K w (PV.renL fb ft l) us
  | [], us => by simp [RepL, PV.renL]
  | p :: ps, us => by
    simp only [RepL, PV.renL]
    rintro ⟨u, us', rfl, h1, h2⟩
    exact ⟨u, us', rfl, Rep.ren hβ hτ hg p u h1, RepL.ren hβ hτ hg ps us' h2⟩
end
mutual
theorem Rep.unren {K K0 : Kx} {w : World} {fb ft : Nat → Nat} {n m : Nat} (hβ : ∀ id b, id < n → K.β[fb id]? = some b → K0.β[id]? = some b) (hτ : ∀ t c, t < m → K.τ[ft t]? = some c → K0.τ[t]? = some c) (hg : ∀ b hi, K.good w b hi → K0.good w b hi) :
    ∀ (p : PV) (u : Value), p.lt n m = true → Rep K w (p.ren fb ft) u → Rep K0 w p u
  | .any, u => by simp [Rep]
  | .un, u => by simp [Rep, PV.ren]
  | .d c, u => by simp only [Rep, PV.ren]; exact fun _ => RepD.mono (fun b hi h => ⟨hg b hi h, fun _ _ => rfl⟩) c u
  | .agg l, u => by
    simp only [Rep, PV.ren, PV.lt]
    rintro hl ⟨cs, h1, h2⟩
    exact ⟨cs, h1, RepL.unren hβ hτ hg l cs hl h2⟩
  | .tup l, u => by
    simp only [Rep, PV.ren, PV.lt]
    rintro hl ⟨cs, h1, h2⟩
    exact ⟨cs, h1, RepL.unren hβ hτ hg l cs hl h2⟩
  | .ptr id off, u => by
    simp only [Rep, PV.ren, PV.lt, Nat.blt_eq]
    rintro hl ⟨b, h1, h2⟩
    exact ⟨b, hβ _ _ hl h1, h2⟩
  | .ep l, u => by
    simp only [Rep, PV.ren]
    rintro _ ⟨b, o, h1, h2, h3⟩
    exact ⟨b, o, h1, hg _ _ h2, CellsD.mono (fun b hi h => ⟨hg b hi h, fun _ _ => rfl⟩) l b o (fun _ _ => rfl) h3⟩
  | .hd t n, u => by
    simp only [Rep, PV.ren, PV.lt, Nat.blt_eq]
    rintro hl ⟨c, h1, h2⟩
    exact ⟨c, hτ _ _ hl h1, h2⟩
  | .bsl k id off n cap, u => by
    simp only [Rep, PV.ren, PV.lt, Nat.blt_eq]
    rintro hl ⟨b, h1, h2⟩
    exact ⟨b, hβ _ _ hl h1, h2⟩
  | .fn f caps, u => by
    simp only [Rep, PV.ren, PV.lt]
    rintro hl ⟨cs, h1, h2⟩
    exact ⟨cs, h1, RepL.unren hβ hτ hg caps cs hl h2⟩
theorem RepL.unren {K K0 : Kx} {w : World} {fb ft : Nat → Nat} {n m : Nat} (hβ : ∀ id b, id < n → K.β[fb id]? = some b → K0.β[id]? = some b) (hτ : ∀ t c, t < m → K.τ[ft t]? = some c → K0.τ[t]? = some c) (hg : ∀ b hi, K.good w b hi → K0.good w b hi) :
    ∀ (l : List PV) (us : List Value), PV.ltL n m l = true → RepL K w (PV.renL fb ft l) us → RepL K0 w l us
  | [], us => by simp [RepL, PV.renL]
  | p :: ps, us => by
    simp only [RepL, PV.renL, PV.ltL, Bool.and_eq_true]
    rintro ⟨hl1, hl2⟩ ⟨u, us', rfl, h1, h2⟩
    exact ⟨u, us', rfl, Rep.unren hβ hτ hg p u hl1 h1, RepL.unren hβ hτ hg ps us' hl2 h2⟩
end

/-- What may stand for what. -/
def Coe (S : PS) (p q : PV) : Prop := ∀ K w u, Inv K S w → Rep K w p u → Rep K w q u
def CoeL (S : PS) : List PV → List PV → Prop
  | [], qs => qs = []
  | p :: ps, qs => ∃ q qs', qs = q :: qs' ∧ Coe S p q ∧ CoeL S ps qs'
theorem coe_refl {S : PS} (p : PV) : Coe S p p := fun _ _ _ _ h => h
theorem coe_d {S : PS} {p : PV} {d : DV} (h : S.toD p = some d) : Coe S p (.d d) := fun _ _ _ hI hr => toD_rep hI h hr
theorem coe_s {S : PS} {p : PV} {k : Nat} {l : List (List DV)} (h : S.toS k p = some l) : Coe S p (.d (.sl k l)) := fun _ _ _ hI hr => by simpa only [Rep] using toS_rep hI h hr
theorem coeL_nil {S : PS} : CoeL S [] [] := rfl
theorem coeL_cons {S : PS} {p q : PV} {ps qs : List PV} (h : Coe S p q) (h' : CoeL S ps qs) : CoeL S (p :: ps) (q :: qs) := ⟨q, qs, rfl, h, h'⟩
theorem CoeL.rep {S : PS} {K : Kx} {w : World} (hI : Inv K S w) : ∀ {ps qs : List PV} {us : List Value}, CoeL S ps qs → RepL K w ps us → RepL K w qs us
  | [], qs, us, h, hr => by simp only [CoeL] at h; subst h; exact hr
  | p :: ps, qs, us, h, hr => by
    simp only [CoeL] at h
    obtain ⟨q, qs', rfl, h1, h2⟩ := h
    simp only [RepL] at hr ⊢
    obtain ⟨u, us', rfl, h3, h4⟩ := hr
    exact ⟨u, us', rfl, h1 K w u hI h3, CoeL.rep hI h2 h4⟩

def updL {α : Type} : List α → List Nat → List α → List α
  | l, i :: is, x :: xs => updL (l.set i x) is xs
  | l, _, _ => l
theorem updL_length {α : Type} : ∀ (l : List α) (is : List Nat) (xs : List α), (updL l is xs).length = l.length
  | l, [], xs => by cases xs <;> rfl
  | l, i :: is, [] => rfl
  | l, i :: is, x :: xs => by rw [updL, updL_length]; simp
theorem updL_out {α : Type} {t : Nat} : ∀ (l : List α) (is : List Nat) (xs : List α), t ∉ is → (updL l is xs)[t]? = l[t]?
  | l, [], xs, _ => by cases xs <;> rfl
  | l, i :: is, [], _ => rfl
  | l, i :: is, x :: xs, h => by
    simp only [List.mem_cons, not_or] at h
    rw [updL, updL_out _ _ _ h.2, List.getElem?_set_ne (Ne.symm h.1)]
theorem updL_in {α : Type} {t : Nat} : ∀ (l : List α) (is : List Nat) (xs : List α) (j : Nat), is.Nodup → is[j]? = some t → t < l.length → j < xs.length → (updL l is xs)[t]? = xs[j]?
  | l, [], xs, j, _, h, _, _ => by simp at h
  | l, i :: is, [], j, _, _, _, h => by simp at h
  | l, i :: is, x :: xs, j, hn, h, ht, hj => by
    rw [updL]
    cases j with
    | zero =>
      simp at h; subst h
      rw [updL_out _ _ _ (List.nodup_cons.1 hn).1, List.getElem?_set_self ht]; rfl
    | succ j =>
      simp only [List.getElem?_cons_succ] at h ⊢
      exact updL_in _ is xs j (List.nodup_cons.1 hn).2 h (by simpa using ht) (by simpa using hj)

def fbN (ids : List Nat) (i : Nat) : Nat := ids.getD i 0
def ftN (tids : List Nat) (m t : Nat) : Nat := (tids[t]?).getD (m + (t - tids.length))
/-- The caller's state behind a call. -/
def PS.after (S : PS) (ids tids : List Nat) (S0' : PS) : PS :=
  ⟨updL S.boxes ids (S0'.boxes.map (PV.renL (fbN ids) (ftN tids S.toks.length))), updL S.toks tids S0'.toks ++ S0'.toks.drop tids.length⟩

structure Passes (S S0 : PS) (ids tids : List Nat) : Prop where
  nid : ids.Nodup
  ntid : tids.Nodup
  lenb : S0.boxes.length = ids.length
  lent : S0.toks.length = tids.length
  box : ∀ (i id : Nat), ids[i]? = some id → S.boxes[id]? = (S0.boxes[i]?).map (PV.renL (fbN ids) (ftN tids S.toks.length))
  tok : ∀ (t tid : Nat), tids[t]? = some tid → S.toks[tid]? = S0.toks[t]?
  lt : S0.boxes.all (PV.ltL ids.length tids.length) = true

def subK (K : Kx) (ids tids : List Nat) : Kx :=
  { β := ids.map fun i => K.β.getD i 0
    τ := tids.map fun t => (K.τ[t]?).getD ⟨none, []⟩
    M := fun b => K.M b ∨ (b ∈ K.β ∧ b ∉ ids.map fun i => K.β.getD i 0)
    T := fun b lo => K.T b lo ∨ ∃ t c, t ∉ tids ∧ K.τ[t]? = some c ∧ c.blk = some (b, lo) }

section
variable {S S0 : PS} {K : Kx} {w : World} {ids tids : List Nat}

theorem Passes.idlt (h : Passes S S0 ids tids) {i id : Nat} (hi : ids[i]? = some id) : id < S.boxes.length := by
  have h1 := h.box i id hi
  have h2 := (List.getElem?_eq_some_iff.1 hi).1
  rw [← h.lenb] at h2
  rw [List.getElem?_eq_getElem h2] at h1
  exact (List.getElem?_eq_some_iff.1 h1).1
theorem Passes.tidlt (h : Passes S S0 ids tids) {i id : Nat} (hi : tids[i]? = some id) : id < S.toks.length := by
  have h1 := h.tok i id hi
  have h2 := (List.getElem?_eq_some_iff.1 hi).1
  rw [← h.lent] at h2
  rw [List.getElem?_eq_getElem h2] at h1
  exact (List.getElem?_eq_some_iff.1 h1).1
theorem sub_β (hI : Inv K S w) (h : Passes S S0 ids tids) {i b : Nat} : (subK K ids tids).β[i]? = some b ↔ ∃ id, ids[i]? = some id ∧ K.β[id]? = some b := by
  show (ids.map _)[i]? = _ ↔ _
  rw [List.getElem?_map]
  constructor
  · intro h1
    cases e : ids[i]? with
    | none => rw [e] at h1; simp at h1
    | some id =>
      rw [e] at h1
      have hlt := h.idlt e
      rw [← hI.lenβ] at hlt
      refine ⟨id, rfl, ?_⟩
      simp only [Option.map_some, Option.some.injEq] at h1
      rw [← h1, List.getD_eq_getElem?_getD, List.getElem?_eq_getElem hlt]; rfl
  · rintro ⟨id, h1, h2⟩
    rw [h1]
    simp only [Option.map_some, Option.some.injEq]
    rw [List.getD_eq_getElem?_getD, h2]; rfl
theorem sub_τ (hI : Inv K S w) (h : Passes S S0 ids tids) {t : Nat} {c : TokC} : (subK K ids tids).τ[t]? = some c ↔ ∃ tid, tids[t]? = some tid ∧ K.τ[tid]? = some c := by
  show (tids.map _)[t]? = _ ↔ _
  rw [List.getElem?_map]
  constructor
  · intro h1
    cases e : tids[t]? with
    | none => rw [e] at h1; simp at h1
    | some id =>
      rw [e] at h1
      have hlt := h.tidlt e
      rw [← hI.lenτ] at hlt
      refine ⟨id, rfl, ?_⟩
      simp only [Option.map_some, Option.some.injEq] at h1
      rw [← h1, List.getElem?_eq_getElem hlt]; rfl
  · rintro ⟨id, h1, h2⟩
    rw [h1]
    simp only [Option.map_some, Option.some.injEq]
    rw [h2]; rfl
theorem sub_mem (hI : Inv K S w) (h : Passes S S0 ids tids) {b : Nat} : b ∈ (subK K ids tids).β ↔ ∃ (i id : Nat), ids[i]? = some id ∧ K.β[id]? = some b := by
  constructor
  · intro hb
    obtain ⟨i, hi⟩ := List.mem_iff_getElem?.1 hb
    obtain ⟨id, h1, h2⟩ := (sub_β hI h).1 hi
    exact ⟨i, id, h1, h2⟩
  · rintro ⟨i, id, h1, h2⟩
    exact List.mem_of_getElem? ((sub_β hI h).2 ⟨id, h1, h2⟩)
theorem sub_memβ (hI : Inv K S w) (h : Passes S S0 ids tids) {b : Nat} (hb : b ∈ (subK K ids tids).β) : b ∈ K.β := by
  obtain ⟨i, id, h1, h2⟩ := (sub_mem hI h).1 hb
  exact List.mem_of_getElem? h2
theorem sub_good (hI : Inv K S w) (h : Passes S S0 ids tids) {b hi : Nat} : (subK K ids tids).good w b hi ↔ K.good w b hi := by
  constructor
  · rintro ⟨h1, h2, h3, h4, h5⟩
    refine ⟨h1, fun hb => h3 (.inr ⟨hb, h2⟩), fun hm => h3 (.inl hm), fun lo hm => h4 lo (.inl hm), fun t c lo ht hc => ?_⟩
    by_cases e : t ∈ tids
    · obtain ⟨j, hj⟩ := List.mem_iff_getElem?.1 e
      exact h5 j c lo ((sub_τ hI h).2 ⟨t, hj, ht⟩) hc
    · exact h4 lo (.inr ⟨t, c, e, ht, hc⟩)
  · rintro ⟨h1, h2, h3, h4, h5⟩
    refine ⟨h1, fun hb => h2 (sub_memβ hI h hb), ?_, ?_, fun t c lo ht hc => ?_⟩
    · rintro (hm | ⟨hb, _⟩)
      · exact h3 hm
      · exact h2 hb
    · rintro lo (hm | ⟨t, c, _, ht, hc⟩)
      · exact h4 lo hm
      · exact h5 t c lo ht hc
    · obtain ⟨tid, h6, h7⟩ := (sub_τ hI h).1 ht
      exact h5 tid c lo h7 hc

theorem fbN_get {i id : Nat} (h : ids[i]? = some id) : fbN ids i = id := by unfold fbN; rw [List.getD_eq_getElem?_getD, h]; rfl
theorem ftN_get {m t id : Nat} (h : tids[t]? = some id) : ftN tids m t = id := by unfold ftN; rw [h]; rfl

theorem subL_unren (hI : Inv K S w) (h : Passes S S0 ids tids) {l : List PV} {us : List Value} (hl : PV.ltL ids.length tids.length l = true) (hr : RepL K w (PV.renL (fbN ids) (ftN tids S.toks.length) l) us) : RepL (subK K ids tids) w l us := by
  refine RepL.unren (n := ids.length) (m := tids.length) (fun id b hid hb => ?_) (fun t c ht hc => ?_) (fun b hi hg => (sub_good hI h).2 hg) l us hl hr
  · have e := List.getElem?_eq_getElem hid
    rw [fbN_get e] at hb
    exact (sub_β hI h).2 ⟨_, e, hb⟩
  · have e := List.getElem?_eq_getElem ht
    rw [ftN_get e] at hc
    exact (sub_τ hI h).2 ⟨_, e, hc⟩

theorem Inv.sub (hI : Inv K S w) (h : Passes S S0 ids tids) : Inv (subK K ids tids) S0 w := by
  refine ⟨by simp [subK, h.lenb], by simp [subK, h.lent], fun i b c h1 h2 => ?_, ?_, fun b hb => ?_, fun t T c h1 h2 => ?_, fun t c g lo h1 h2 => ?_, fun t t' c c' g lo lo' h1 h2 h3 h4 => ?_, fun t c u h1 h2 => ?_, ?_, ?_, hI.fz.sub (fun b hb => sub_memβ hI h hb) fun t c h1 => ?_⟩
  · obtain ⟨id, h3, h4⟩ := (sub_β hI h).1 h1
    have h5 := h.box i id h3
    rw [h2] at h5
    obtain ⟨C, ty, h6, h7, h8⟩ := hI.box id b _ h4 h5
    exact ⟨C, ty, h6, subL_unren hI h (List.all_eq_true.1 h.lt c (List.mem_of_getElem? h2)) h7, h8⟩
  · refine List.pairwise_iff_getElem.2 fun i j hi hj hij e => ?_
    have e : (subK K ids tids).β[i]? = (subK K ids tids).β[j]? := by rw [List.getElem?_eq_getElem hi, List.getElem?_eq_getElem hj, e]
    have hb : (subK K ids tids).β[j]? = some ((subK K ids tids).β[j]'hj) := List.getElem?_eq_getElem hj
    obtain ⟨id2, h3, h4⟩ := (sub_β hI h).1 hb
    obtain ⟨id1, h5, h6⟩ := (sub_β hI h).1 (e.trans hb)
    have hK := h6.trans h4.symm
    have h7 := (List.getElem?_eq_some_iff.1 h4).1
    have h8 := (List.getElem?_eq_some_iff.1 h6).1
    have e1 : id1 = id2 := by
      rw [List.getElem?_eq_getElem h7, List.getElem?_eq_getElem h8] at hK
      exact (List.getElem_inj hI.nodup).1 (Option.some.inj hK)
    subst e1
    have h9 := (List.getElem?_eq_some_iff.1 h3)
    have h10 := (List.getElem?_eq_some_iff.1 h5)
    obtain ⟨l9, e9⟩ := h9
    obtain ⟨l10, e10⟩ := h10
    have := (List.getElem_inj h.nid).1 (e9.trans e10.symm)
    omega
  · have h1 := sub_memβ hI h hb
    obtain ⟨h2, h3⟩ := hI.βM b h1
    refine ⟨?_, ?_⟩
    · rintro (hm | ⟨_, hm⟩)
      · exact h2 hm
      · exact hm hb
    · rintro lo (hm | ⟨t, c, _, ht, hc⟩)
      · exact h3 lo hm
      · exact (hI.tokF t c b lo ht hc).1 h1
  · obtain ⟨tid, h3, h4⟩ := (sub_τ hI h).1 h2
    obtain ⟨h5, u, h6, h7⟩ := hI.tok tid T c (by rw [h.tok t tid h3]; exact h1) h4
    refine ⟨h5, u, h6, ?_⟩
    rcases h7 with h7 | ⟨g, cap, cur, h8, h9, h10, h11, h12, h13, h14, h15⟩
    · exact .inl h7
    · exact .inr ⟨g, cap, cur, h8, h9, h10, h11, h12, h13, (sub_good hI h).2 h14, RowsD.mono (fun _ _ hg => ⟨(sub_good hI h).2 hg, fun _ _ => rfl⟩) T.l g 0 (fun _ _ => rfl) h15⟩
  · obtain ⟨tid, h3, h4⟩ := (sub_τ hI h).1 h1
    obtain ⟨h5, h6, h7⟩ := hI.tokF tid c g lo h4 h2
    refine ⟨fun hb => h5 (sub_memβ hI h hb), ?_, ?_⟩
    · rintro (hm | ⟨hb, _⟩)
      · exact h6 hm
      · exact h5 hb
    · rintro lo' (hm | ⟨t', c', ht', h8, h9⟩)
      · exact h7 lo' hm
      · exact ht' (by rw [hI.tokI t' tid c' c g lo' lo h8 h4 h9 h2]; exact List.mem_of_getElem? h3)
  · obtain ⟨t1, h5, h6⟩ := (sub_τ hI h).1 h1
    obtain ⟨t2, h7, h8⟩ := (sub_τ hI h).1 h2
    have e := hI.tokI t1 t2 c c' g lo lo' h6 h8 h3 h4
    subst e
    obtain ⟨l5, e5⟩ := List.getElem?_eq_some_iff.1 h5
    obtain ⟨l7, e7⟩ := List.getElem?_eq_some_iff.1 h7
    exact (List.getElem_inj h.ntid).1 (e5.trans e7.symm)
  · obtain ⟨tid, h3, h4⟩ := (sub_τ hI h).1 h1
    exact hI.tokH tid c u h4 h2
  · rintro b (hm | ⟨hb, _⟩)
    · exact hI.Mlt b hm
    · exact hI.boxMem hb
  · rintro b lo (hm | ⟨t, c, _, ht, hc⟩)
    · exact hI.Tlt b lo hm
    · exact hI.tokLt ht hc
  · obtain ⟨tid, _, h4⟩ := (sub_τ hI h).1 h1
    exact ⟨tid, h4⟩
end
end Go.Proofs.YtiledamgmppcmaaGreatDoor
/-! PlO -/
namespace Go.Proofs.YtiledamgmppcmaaGreatDoor
open Go.RowKit

def aftK (K K0' : Kx) (tids : List Nat) : Kx := { K with τ := updL K.τ tids K0'.τ ++ K0'.τ.drop tids.length }

section
variable {S S0 S0' : PS} {K K0' : Kx} {w w' : World} {ids tids : List Nat}

theorem aft_β (h : Passes S S0 ids tids) (hs : Step (subK K ids tids) K0' w w') (hI' : Inv K0' S0' w') (hb : S0'.boxes.length = ids.length) {i b : Nat} : K0'.β[i]? = some b ↔ (subK K ids tids).β[i]? = some b := by
  constructor
  · intro h1
    have hlt := (List.getElem?_eq_some_iff.1 h1).1
    rw [hI'.lenβ, hb] at hlt
    have h2 : (subK K ids tids).β[i]? = some ((subK K ids tids).β[i]'(by simpa [subK] using hlt)) := List.getElem?_eq_getElem _
    have h3 := hs.β _ _ h2
    rw [h1] at h3
    rw [h2, h3]
  · exact hs.β i b
theorem aft_mem (h : Passes S S0 ids tids) (hs : Step (subK K ids tids) K0' w w') (hI' : Inv K0' S0' w') (hb : S0'.boxes.length = ids.length) {b : Nat} : b ∈ K0'.β ↔ b ∈ (subK K ids tids).β := by
  constructor
  · intro h1
    obtain ⟨i, hi⟩ := List.mem_iff_getElem?.1 h1
    exact List.mem_of_getElem? ((aft_β h hs hI' hb).1 hi)
  · intro h1
    obtain ⟨i, hi⟩ := List.mem_iff_getElem?.1 h1
    exact List.mem_of_getElem? ((aft_β h hs hI' hb).2 hi)
theorem ftN_old {m j : Nat} (h : tids.length ≤ j) : ftN tids m j = m + (j - tids.length) := by
  unfold ftN; rw [List.getElem?_eq_none h]; rfl
theorem aft_lenτ (h : Passes S S0 ids tids) (hs : Step (subK K ids tids) K0' w w') : tids.length ≤ K0'.τ.length := by
  rcases Nat.eq_zero_or_pos tids.length with h0 | h0
  · omega
  · have h1 : (subK K ids tids).τ[tids.length - 1]? = some ((subK K ids tids).τ[tids.length - 1]'(by simp [subK]; omega)) := List.getElem?_eq_getElem _
    obtain ⟨c', h2, _⟩ := hs.τ _ _ h1
    have := (List.getElem?_eq_some_iff.1 h2).1
    omega
theorem aft_τ1 (hI : Inv K S w) (h : Passes S S0 ids tids) (hs : Step (subK K ids tids) K0' w w') {t : Nat} {c : TokC} (h1 : (aftK K K0' tids).τ[t]? = some c) : (t ∉ tids ∧ K.τ[t]? = some c) ∨ ∃ j, ftN tids S.toks.length j = t ∧ K0'.τ[j]? = some c := by
  have hl := aft_lenτ h hs
  change (updL K.τ tids K0'.τ ++ K0'.τ.drop tids.length)[t]? = _ at h1
  by_cases hlt : t < K.τ.length
  · rw [List.getElem?_append_left (by rw [updL_length]; exact hlt)] at h1
    by_cases e : t ∈ tids
    · obtain ⟨j, hj⟩ := List.mem_iff_getElem?.1 e
      have hjl : j < K0'.τ.length := Nat.lt_of_lt_of_le (List.getElem?_eq_some_iff.1 hj).1 hl
      rw [updL_in _ _ _ j h.ntid hj hlt hjl] at h1
      exact .inr ⟨j, ftN_get hj, h1⟩
    · rw [updL_out _ _ _ e] at h1
      exact .inl ⟨e, h1⟩
  · rw [List.getElem?_append_right (by rw [updL_length]; omega), updL_length, List.getElem?_drop] at h1
    refine .inr ⟨tids.length + (t - K.τ.length), ?_, h1⟩
    rw [ftN_old (Nat.le_add_right _ _), ← hI.lenτ]; omega
theorem aft_τ2 (hI : Inv K S w) (h : Passes S S0 ids tids) {j : Nat} {c : TokC} (h1 : K0'.τ[j]? = some c) : (aftK K K0' tids).τ[ftN tids S.toks.length j]? = some c := by
  show (updL K.τ tids K0'.τ ++ K0'.τ.drop tids.length)[_]? = _
  have hjl := (List.getElem?_eq_some_iff.1 h1).1
  by_cases hj : j < tids.length
  · have e : tids[j]? = some tids[j] := List.getElem?_eq_getElem hj
    rw [ftN_get e]
    have hlt := h.tidlt e
    rw [← hI.lenτ] at hlt
    rw [List.getElem?_append_left (by rw [updL_length]; exact hlt), updL_in _ _ _ j h.ntid e hlt hjl]
    exact h1
  · rw [ftN_old (by omega), ← hI.lenτ, List.getElem?_append_right (by rw [updL_length]; omega), updL_length, List.getElem?_drop]
    rw [show tids.length + (K.τ.length + (j - tids.length) - K.τ.length) = j from by omega]
    exact h1
theorem aft_τ3 (hI : Inv K S w) {t : Nat} {c : TokC} (ht : t ∉ tids) (h1 : K.τ[t]? = some c) : (aftK K K0' tids).τ[t]? = some c := by
  show (updL K.τ tids K0'.τ ++ K0'.τ.drop tids.length)[_]? = _
  rw [List.getElem?_append_left (by rw [updL_length]; exact (List.getElem?_eq_some_iff.1 h1).1), updL_out _ _ _ ht]
  exact h1
theorem aft_good (hI : Inv K S w) (h : Passes S S0 ids tids) (hs : Step (subK K ids tids) K0' w w') (hI' : Inv K0' S0' w') (hb : S0'.boxes.length = ids.length) {b hi : Nat} (hg : K0'.good w' b hi) : (aftK K K0' tids).good w' b hi := by
  obtain ⟨h1, h2, h3, h4, h5⟩ := hg
  rw [aft_mem h hs hI' hb] at h2
  rw [hs.M] at h3
  rw [hs.T] at h4
  refine ⟨h1, fun hm => h3 (.inr ⟨hm, h2⟩), fun hm => h3 (.inl hm), fun lo hm => h4 lo (.inl hm), fun t c lo ht hc => ?_⟩
  rcases aft_τ1 hI h hs ht with ⟨h6, h7⟩ | ⟨j, _, h7⟩
  · exact h4 lo (.inr ⟨t, c, h6, h7, hc⟩)
  · exact h5 j c lo h7 hc
theorem aft_rep (hI : Inv K S w) (h : Passes S S0 ids tids) (hs : Step (subK K ids tids) K0' w w') (hI' : Inv K0' S0' w') (hb : S0'.boxes.length = ids.length) : 
    (∀ p u, Rep K0' w' p u → Rep (aftK K K0' tids) w' (p.ren (fbN ids) (ftN tids S.toks.length)) u) ∧ (∀ l us, RepL K0' w' l us → RepL (aftK K K0' tids) w' (PV.renL (fbN ids) (ftN tids S.toks.length) l) us) := by
  have hβ : ∀ id b, K0'.β[id]? = some b → (aftK K K0' tids).β[fbN ids id]? = some b := by
    intro id b hb1
    obtain ⟨id', h1, h2⟩ := (sub_β hI h).1 ((aft_β h hs hI' hb).1 hb1)
    rw [fbN_get h1]; exact h2
  exact ⟨Rep.ren hβ (fun t c ht => aft_τ2 hI h ht) fun b hi hg => aft_good hI h hs hI' hb hg, RepL.ren hβ (fun t c ht => aft_τ2 hI h ht) fun b hi hg => aft_good hI h hs hI' hb hg⟩

theorem aft_block (hI : Inv K S w) (h : Passes S S0 ids tids) (hs : Step (subK K ids tids) K0' w w') {b : Nat} (hlt : b < w.heap.size) (h1 : b ∉ (subK K ids tids).β) (h2 : ∀ (t : Nat) (c : TokC) (lo : Nat), t ∈ tids → K.τ[t]? = some c → c.blk ≠ some (b, lo)) : w'.heap[b]? = w.heap[b]? := by
  refine hs.blocks b hlt h1 fun t c lo ht hc => ?_
  obtain ⟨tid, h3, h4⟩ := (sub_τ hI h).1 ht
  exact h2 tid c lo (List.mem_of_getElem? h3) h4 hc

theorem aft_step (hI : Inv K S w) (h : Passes S S0 ids tids) (hs : Step (subK K ids tids) K0' w w') : Step K (aftK K K0' tids) w w' := by
  refine ⟨hs.os, hs.tape, hs.output, hs.size, fun _ _ h => h, fun _ h => .inl h, rfl, rfl, fun t c ht => ?_, fun t' c' g lo' h1 h2 => ?_, fun b hlt hβ hτ => ?_, fun t c g lo i ht hc hβ hi => ?_⟩
  · by_cases e : t ∈ tids
    · obtain ⟨j, hj⟩ := List.mem_iff_getElem?.1 e
      obtain ⟨c', h1, h2⟩ := hs.τ j c ((sub_τ hI h).2 ⟨t, hj, ht⟩)
      exact ⟨c', by have := aft_τ2 hI h h1; rwa [ftN_get hj] at this, h2⟩
    · exact ⟨c, aft_τ3 hI e ht, List.prefix_rfl⟩
  · rcases aft_τ1 hI h hs h1 with ⟨h3, h4⟩ | ⟨j, _, h4⟩
    · exact .inr ⟨t', c', lo', h4, h2, Nat.le_refl _⟩
    · rcases hs.τnew j c' g lo' h4 h2 with h5 | ⟨t, c, lo, h5, h6, h7⟩
      · exact .inl h5
      · obtain ⟨tid, _, h8⟩ := (sub_τ hI h).1 h5
        exact .inr ⟨tid, c, lo, h8, h6, h7⟩
  · exact aft_block hI h hs hlt (fun hm => hβ (sub_memβ hI h hm)) fun t c lo _ ht => hτ t c lo ht
  · by_cases e : t ∈ tids
    · obtain ⟨j, hj⟩ := List.mem_iff_getElem?.1 e
      exact hs.cells j c g lo i ((sub_τ hI h).2 ⟨t, hj, ht⟩) hc (fun hm => hβ (sub_memβ hI h hm)) hi
    · refine cell_block (aft_block hI h hs (hI.tokLt ht hc) (fun hm => hβ (sub_memβ hI h hm)) fun t' c' lo' h1 h2 h3 => ?_)
      exact e (by rw [hI.tokI t t' c c' g lo lo' ht h2 hc h3]; exact h1)

theorem aft_inv (hI : Inv K S w) (h : Passes S S0 ids tids) (hs : Step (subK K ids tids) K0' w w') (hI' : Inv K0' S0' w') (hb : S0'.boxes.length = ids.length) : Inv (aftK K K0' tids) (S.after ids tids S0') w' := by
  have hst := aft_step hI h hs
  have hrep := aft_rep hI h hs hI' hb
  have hlτ := aft_lenτ h hs
  have hlt0 : K0'.τ.length = S0'.toks.length := hI'.lenτ
  refine ⟨by show K.β.length = (updL _ _ _).length; rw [updL_length]; exact hI.lenβ, ?_, fun i b c h1 h2 => ?_, hI.nodup, hI.βM, fun t T c h1 h2 => ?_, fun t c g lo h1 h2 => ?_, fun t t' c c' g lo lo' h1 h2 h3 h4 => ?_, fun t c u h1 h2 => ?_, fun b hm => Nat.lt_of_lt_of_le (hI.Mlt b hm) hs.size, fun b lo hm => Nat.lt_of_lt_of_le (hI.Tlt b lo hm) hs.size, hI.fz.step hst⟩
  · show (updL _ _ _ ++ _).length = (updL _ _ _ ++ _).length
    simp only [List.length_append, updL_length, List.length_drop, hI.lenτ, hlt0]
  · change K.β[i]? = _ at h1
    change (updL S.boxes ids _)[i]? = _ at h2
    have hil : i < S.boxes.length := by rw [← hI.lenβ]; exact (List.getElem?_eq_some_iff.1 h1).1
    by_cases e : i ∈ ids
    · obtain ⟨j, hj⟩ := List.mem_iff_getElem?.1 e
      have hjl : j < ids.length := (List.getElem?_eq_some_iff.1 hj).1
      rw [updL_in _ _ _ j h.nid hj hil (by simp; omega), List.getElem?_map] at h2
      cases e2 : S0'.boxes[j]? with
      | none => rw [e2] at h2; simp at h2
      | some c0 =>
        rw [e2] at h2
        simp only [Option.map_some, Option.some.injEq] at h2
        subst h2
        obtain ⟨C, ty, h3, h4, h5⟩ := hI'.box j b c0 (hs.β j b ((sub_β hI h).2 ⟨i, hj, h1⟩)) e2
        exact ⟨C, ty, h3, hrep.2 _ _ h4, h5⟩
    · rw [updL_out _ _ _ e] at h2
      refine (hI.box i b c h1 h2).step hst (aft_block hI h hs (hI.boxMem (List.mem_of_getElem? h1)) (fun hm => ?_) fun t c lo _ ht hc => ?_)
      · obtain ⟨j, id, h3, h4⟩ := (sub_mem hI h).1 hm
        obtain ⟨l1, e1⟩ := List.getElem?_eq_some_iff.1 h1
        obtain ⟨l4, e4⟩ := List.getElem?_eq_some_iff.1 h4
        have := (List.getElem_inj hI.nodup).1 (e1.trans e4.symm)
        subst this
        exact e (List.mem_of_getElem? h3)
      · exact (hI.tokF t c b lo ht hc).1 (List.mem_of_getElem? h1)
  · change (updL S.toks tids S0'.toks ++ S0'.toks.drop tids.length)[t]? = _ at h1
    rcases aft_τ1 hI h hs h2 with ⟨h3, h4⟩ | ⟨j, rfl, h4⟩
    · have htl : t < S.toks.length := by rw [← hI.lenτ]; exact (List.getElem?_eq_some_iff.1 h4).1
      rw [List.getElem?_append_left (by rw [updL_length]; exact htl), updL_out _ _ _ h3] at h1
      obtain ⟨h5, u, h6, h7⟩ := hI.tok t T c h1 h4
      refine ⟨h5, u, h6, h7.step hst fun g lo hg => ?_⟩
      refine aft_block hI h hs (hI.tokLt h4 hg) (fun hm => (hI.tokF t c g lo h4 hg).1 (sub_memβ hI h hm)) fun t' c' lo' h8 h9 h10 => ?_
      exact h3 (by rw [hI.tokI t t' c c' g lo lo' h4 h9 hg h10]; exact h8)
    · have h5 : S0'.toks[j]? = some T := by
        by_cases hj : j < tids.length
        · have e : tids[j]? = some tids[j] := List.getElem?_eq_getElem hj
          rw [ftN_get e] at h1
          have hlt := h.tidlt e
          rw [List.getElem?_append_left (by rw [updL_length]; exact hlt), updL_in _ _ _ j h.ntid e hlt (by omega)] at h1
          exact h1
        · rw [ftN_old (by omega), List.getElem?_append_right (by rw [updL_length]; omega), updL_length, List.getElem?_drop] at h1
          rwa [show tids.length + (S.toks.length + (j - tids.length) - S.toks.length) = j from by omega] at h1
      obtain ⟨h6, u, h7, h8⟩ := hI'.tok j T c h5 h4
      refine ⟨h6, u, h7, ?_⟩
      rcases h8 with h8 | ⟨g, cap, cur, h9, h10, h11, h12, h13, h14, h15, h16⟩
      · exact .inl h8
      · exact .inr ⟨g, cap, cur, h9, h10, h11, h12, h13, h14, aft_good hI h hs hI' hb h15, RowsD.mono (fun _ _ hg => ⟨aft_good hI h hs hI' hb hg, fun _ _ => rfl⟩) T.l g 0 (fun _ _ => rfl) h16⟩
  · rcases aft_τ1 hI h hs h1 with ⟨h3, h4⟩ | ⟨j, rfl, h4⟩
    · exact hI.tokF t c g lo h4 h2
    · obtain ⟨h5, h6, h7⟩ := hI'.tokF j c g lo h4 h2
      rw [aft_mem h hs hI' hb] at h5
      rw [hs.M] at h6
      rw [hs.T] at h7
      exact ⟨fun hm => h6 (.inr ⟨hm, h5⟩), fun hm => h6 (.inl hm), fun lo' hm => h7 lo' (.inl hm)⟩
  · rcases aft_τ1 hI h hs h1 with ⟨h5, h6⟩ | ⟨j, rfl, h6⟩ <;> rcases aft_τ1 hI h hs h2 with ⟨h7, h8⟩ | ⟨j', rfl, h8⟩
    · exact hI.tokI t t' c c' g lo lo' h6 h8 h3 h4
    · have h9 := (hI'.tokF j' c' g lo' h8 h4).2.2 lo
      rw [hs.T] at h9
      exact (h9 (.inr ⟨t, c, h5, h6, h3⟩)).elim
    · have h9 := (hI'.tokF j c g lo h6 h3).2.2 lo'
      rw [hs.T] at h9
      exact (h9 (.inr ⟨t', c', h7, h8, h4⟩)).elim
    · rw [hI'.tokI j j' c c' g lo lo' h6 h8 h3 h4]
  · rcases aft_τ1 hI h hs h1 with ⟨h3, h4⟩ | ⟨j, rfl, h4⟩
    · exact hI.tokH t c u h4 h2
    · exact hI'.tokH j c u h4 h2
end

section
variable {P : Program} {o : Oper} {F : Nat → PV} {S S0 S0' : PS} {ids tids : List Nat}

/-- The function is entered by a call. -/
def Ent (P : Program) (f : Nat) : Prop := ∀ args w, (callFunc f args).run P w = .ok (.enter f args) w

theorem repL_eval {K : Kx} {w : World} {ρ : Operand → Value} : ∀ l : List Operand, (∀ x ∈ l, Rep K w (evP F x) (ρ x)) → RepL K w (l.map (evP F)) (l.map ρ)
  | [], _ => by simp [RepL]
  | x :: r, h => by
    simp only [List.map_cons, RepL]
    exact ⟨_, _, rfl, h x (by simp), repL_eval r fun y hy => h y (by simp [hy])⟩

theorem run_call {c : Operand} {al0 : Array Operand} {ats : Array TypeId} {f : Nat} {caps : List PV} {K : Kx} {w : World} {ρ : Operand → Value} (ho : o.op = .call { callee := .value c, args := al0, argTypes := ats }) (he : Ent P f) (hc : evP F c = .fn f caps)
    (h : ∀ x ∈ o.op.operands, Rep K w (evP F x) (ρ x)) : ∃ vs : List Value, (execOp ρ o).run P w = .ok (.enter f vs.toArray) w ∧ RepL K w (al0.toList.map (evP F) ++ caps) vs := by
  have h1 := h c (by simp [ho, Op.operands, Call.operands])
  rw [hc] at h1
  simp only [Rep] at h1
  obtain ⟨cs, h2, h3⟩ := h1
  have h4 := repL_eval (F := F) (K := K) (w := w) (ρ := ρ) al0.toList fun x hx => h x (by simp [ho, Op.operands, Call.operands]; exact .inr (by simpa using hx))
  refine ⟨al0.toList.map ρ ++ cs, ?_, h4.append h3⟩
  have e : (al0.toList.map ρ ++ cs).toArray = al0.map ρ ++ cs.toArray := by apply Array.ext'; simp
  rw [e]
  simp only [execOp, ho, resolve, h2, Deferred.ofValue, Sem.run_bind, Sem.run_pure, Result.andThen_ok, invoke, Array.empty_append]
  exact he _ _

theorem ops_call {c : Operand} {al0 : Array Operand} {ats : Array TypeId} {f : Nat} {caps args : List PV} {r : PV} (ho : o.op = .call { callee := .value c, args := al0, argTypes := ats }) (he : Ent P f) (hc : evP F c = .fn f caps)
    (hp : Passes S S0 ids tids) (ha : CoeL S (al0.toList.map (evP F) ++ caps) (PV.renL (fbN ids) (ftN tids S.toks.length) args)) (hlt : PV.ltL ids.length tids.length args = true) (hb : S0'.boxes.length = ids.length) (hev : EvC P f args S0 (.ret r) S0') :
    OpS P o F S (r.ren (fbN ids) (ftN tids S.toks.length)) (S.after ids tids S0') := by
  intro ro mm K w a next Q hI hx hn
  obtain ⟨vs, h1, h2⟩ := run_call ho he hc hx
  have h3 := subL_unren hI hp hlt (CoeL.rep hI ha h2)
  refine wpIn_ent h1 ((hev (subK K ids tids) w vs (hI.sub hp) h3).mono ?_)
  rintro e w' ⟨K0', hs, hI', v, rfl, hr⟩
  exact hn v w' (aftK K K0' tids) (aft_step hI hp hs) (aft_inv hI hp hs hI' hb) ((aft_rep hI hp hs hI' hb).1 r v hr)
theorem opx_call {c : Operand} {al0 : Array Operand} {ats : Array TypeId} {f : Nat} {caps args : List PV} {x : Value} (ho : o.op = .call { callee := .value c, args := al0, argTypes := ats }) (he : Ent P f) (hc : evP F c = .fn f caps)
    (hp : Passes S S0 ids tids) (ha : CoeL S (al0.toList.map (evP F) ++ caps) (PV.renL (fbN ids) (ftN tids S.toks.length) args)) (hlt : PV.ltL ids.length tids.length args = true) (hb : S0'.boxes.length = ids.length) (hev : EvC P f args S0 (.panic x) S0') :
    OpX P o F S x (S.after ids tids S0') := by
  intro ro mm K w a next Q hI hx hn
  obtain ⟨vs, h1, h2⟩ := run_call ho he hc hx
  have h3 := subL_unren hI hp hlt (CoeL.rep hI ha h2)
  refine wpIn_ent h1 ((hev (subK K ids tids) w vs (hI.sub hp) h3).mono ?_)
  rintro e w' ⟨K0', hs, hI', hr⟩
  simp only [OutRep] at hr
  subst hr
  exact hn w' (aftK K K0' tids) (aft_step hI hp hs) (aft_inv hI hp hs hI' hb)

mutual
theorem ren_id {fb ft : Nat → Nat} : ∀ p : PV, p.lt 0 0 = true → p.ren fb ft = p
  | .any, _ => rfl
  | .un, _ => rfl
  | .d _, _ => rfl
  | .ep _, _ => rfl
  | .agg l, h => by simp only [PV.lt] at h; simp only [PV.ren, renL_id l h]
  | .tup l, h => by simp only [PV.lt] at h; simp only [PV.ren, renL_id l h]
  | .fn f l, h => by simp only [PV.lt] at h; simp only [PV.ren, renL_id l h]
  | .ptr id off, h => by simp [PV.lt, Nat.blt] at h
  | .bsl k id off n cap, h => by simp [PV.lt, Nat.blt] at h
  | .hd t n, h => by simp [PV.lt, Nat.blt] at h
theorem renL_id {fb ft : Nat → Nat} : ∀ l : List PV, PV.ltL 0 0 l = true → PV.renL fb ft l = l
  | [], _ => rfl
  | p :: r, h => by
    simp only [PV.ltL, Bool.and_eq_true] at h
    simp only [PV.renL, ren_id p h.1, renL_id r h.2]
end
theorem passes_none : Passes S ⟨[], []⟩ [] [] := ⟨by simp, by simp, rfl, rfl, by simp, by simp, rfl⟩
/-- A call that is handed data alone. -/
theorem ops_pure {c : Operand} {al0 : Array Operand} {ats : Array TypeId} {f : Nat} {caps args : List PV} {r : PV} (ho : o.op = .call { callee := .value c, args := al0, argTypes := ats }) (he : Ent P f) (hc : evP F c = .fn f caps) (hlt : PV.ltL 0 0 args = true)
    (ha : CoeL S (al0.toList.map (evP F) ++ caps) args) (hev : EvC P f args ⟨[], []⟩ (.ret r) ⟨[], []⟩) : OpS P o F S (r.ren (fbN []) (ftN [] S.toks.length)) S := by
  have hren : PV.renL (fbN []) (ftN [] S.toks.length) args = args := renL_id args hlt
  have h := ops_call (S := S) (S0 := ⟨[], []⟩) (S0' := ⟨[], []⟩) (ids := []) (tids := []) ho he hc passes_none (by rw [hren]; exact ha) hlt rfl hev
  have e : S.after [] [] ⟨[], []⟩ = S := by
    cases S; simp [PS.after, updL]
  rw [e] at h
  exact h
end
end Go.Proofs.YtiledamgmppcmaaGreatDoor
/-! PlP -/
namespace Go.Proofs.YtiledamgmppcmaaGreatDoor
open Go.RowKit

section
variable {P : Program} {o : Oper} {F : Nat → PV} {S : PS} {ty yt : TypeId} {x y : Operand}

theorem eqG_int {op : BinOp} {t : TypeId} {x y : Operand} {k k' : IntKind} {a b : Int} {w : World} : (eqGuard op t x y (.int k a) (.int k' b)).run P w = .ok () w := by
  unfold eqGuard; cases op <;> simp
theorem eqG_str {op : BinOp} {t : TypeId} {x y : Operand} {a b : ByteArray} {w : World} : (eqGuard op t x y (.string a) (.string b)).run P w = .ok () w := by
  unfold eqGuard; cases op <;> simp
theorem eqG_bool {op : BinOp} {t : TypeId} {x y : Operand} {a b : Bool} {w : World} : (eqGuard op t x y (.bool a) (.bool b)).run P w = .ok () w := by
  unfold eqGuard; cases op <;> simp
def IntKind.lo : IntKind → Int
  | .i8 => -128 | .i16 => -32768 | .i32 => -2147483648 | .i64 => -9223372036854775808 | _ => 0
def IntKind.hi : IntKind → Int
  | .i8 => 127 | .i16 => 32767 | .i32 => 2147483647 | .i64 => 9223372036854775807 | .u8 => 255 | .u16 => 65535 | .u32 => 4294967295 | .u64 => 18446744073709551615
theorem wrap_in (k : IntKind) (n : Int) (h0 : IntKind.lo k ≤ n) (h1 : n ≤ IntKind.hi k) : k.wrap n = n := by
  cases k <;> simp only [IntKind.lo, IntKind.hi] at h0 h1 <;> first
    | exact IntWalk.i8_in n (by omega) | exact IntWalk.i16_in n (by omega) | exact IntWalk.i32_in n (by omega) | exact IntWalk.i64_in n (by omega)
    | exact IntWalk.u8_in n (by omega) | exact IntWalk.u16_in n (by omega) | exact IntWalk.u32_in n (by omega) | exact IntWalk.u64_in n (by omega)

theorem opb_add {k : IntKind} {a b : Int} (ho : o.op = .binOp .add ty x y yt) (hx : evP F x = .d (.v (.int k a))) (hy : evP F y = .d (.v (.int k b))) (h0 : IntKind.lo k ≤ a + b) (h1 : a + b ≤ IntKind.hi k) : OpS P o F S (.d (.v (.int k (a + b)))) S :=
  ops_bin ho hx hy rfl fun w => by simp [eqG_int, binOp, Op.intArith, wrap_in k _ h0 h1]
theorem opb_sub {k : IntKind} {a b : Int} (ho : o.op = .binOp .sub ty x y yt) (hx : evP F x = .d (.v (.int k a))) (hy : evP F y = .d (.v (.int k b))) (h0 : IntKind.lo k ≤ a - b) (h1 : a - b ≤ IntKind.hi k) : OpS P o F S (.d (.v (.int k (a - b)))) S :=
  ops_bin ho hx hy rfl fun w => by simp [eqG_int, binOp, Op.intArith, wrap_in k _ h0 h1]
theorem opb_mul {k : IntKind} {a b : Int} (ho : o.op = .binOp .mul ty x y yt) (hx : evP F x = .d (.v (.int k a))) (hy : evP F y = .d (.v (.int k b))) (h0 : IntKind.lo k ≤ a * b) (h1 : a * b ≤ IntKind.hi k) : OpS P o F S (.d (.v (.int k (a * b)))) S :=
  ops_bin ho hx hy rfl fun w => by simp [eqG_int, binOp, Op.intArith, wrap_in k _ h0 h1]
theorem opb_quo {k : IntKind} {a b : Int} (ho : o.op = .binOp .quo ty x y yt) (hx : evP F x = .d (.v (.int k a))) (hy : evP F y = .d (.v (.int k b))) (ha : 0 ≤ a) (hb : 0 < b) (h1 : a ≤ IntKind.hi k) : OpS P o F S (.d (.v (.int k (a / b)))) S :=
  ops_bin ho hx hy rfl fun w => by
    have hne : ¬ b = 0 := by omega
    have h2 : 0 ≤ a / b := Int.ediv_nonneg ha (by omega)
    have h3 : a / b ≤ a := Int.ediv_le_self b ha
    have h4 : IntKind.lo k ≤ 0 := by cases k <;> simp [IntKind.lo]
    simp [eqG_int, binOp, Op.intDiv, hne, Int.tdiv_eq_ediv_of_nonneg ha, wrap_in k _ (show IntKind.lo k ≤ a / b by omega) (by omega)]
theorem opb_rem {k : IntKind} {a b : Int} (ho : o.op = .binOp .rem ty x y yt) (hx : evP F x = .d (.v (.int k a))) (hy : evP F y = .d (.v (.int k b))) (ha : 0 ≤ a) (hb : 0 < b) : OpS P o F S (.d (.v (.int k (a % b)))) S :=
  ops_bin ho hx hy rfl fun w => by
    have hne : ¬ b = 0 := by omega
    simp [eqG_int, binOp, Op.intDiv, hne, Int.tmod_eq_emod_of_nonneg ha]
/-- The signed quotient and rest, as the machine has them. -/
theorem opb_quoT {k : IntKind} {a b : Int} (ho : o.op = .binOp .quo ty x y yt) (hx : evP F x = .d (.v (.int k a))) (hy : evP F y = .d (.v (.int k b))) (hb : b ≠ 0) : OpS P o F S (.d (.v (.int k (k.wrap (a.tdiv b))))) S :=
  ops_bin ho hx hy rfl fun w => by simp [eqG_int, binOp, Op.intDiv, hb]
theorem opb_remT {k : IntKind} {a b : Int} (ho : o.op = .binOp .rem ty x y yt) (hx : evP F x = .d (.v (.int k a))) (hy : evP F y = .d (.v (.int k b))) (hb : b ≠ 0) : OpS P o F S (.d (.v (.int k (a.tmod b)))) S :=
  ops_bin ho hx hy rfl fun w => by simp [eqG_int, binOp, Op.intDiv, hb]
/-- Sums and products that may go round. -/
theorem opb_addW {k : IntKind} {a b : Int} (ho : o.op = .binOp .add ty x y yt) (hx : evP F x = .d (.v (.int k a))) (hy : evP F y = .d (.v (.int k b))) : OpS P o F S (.d (.v (.int k (k.wrap (a + b))))) S :=
  ops_bin ho hx hy rfl fun w => by simp [eqG_int, binOp, Op.intArith]
theorem opb_subW {k : IntKind} {a b : Int} (ho : o.op = .binOp .sub ty x y yt) (hx : evP F x = .d (.v (.int k a))) (hy : evP F y = .d (.v (.int k b))) : OpS P o F S (.d (.v (.int k (k.wrap (a - b))))) S :=
  ops_bin ho hx hy rfl fun w => by simp [eqG_int, binOp, Op.intArith]
theorem opb_mulW {k : IntKind} {a b : Int} (ho : o.op = .binOp .mul ty x y yt) (hx : evP F x = .d (.v (.int k a))) (hy : evP F y = .d (.v (.int k b))) : OpS P o F S (.d (.v (.int k (k.wrap (a * b))))) S :=
  ops_bin ho hx hy rfl fun w => by simp [eqG_int, binOp, Op.intArith]

theorem opb_lss {k : IntKind} {a b : Int} (ho : o.op = .binOp .lss ty x y yt) (hx : evP F x = .d (.v (.int k a))) (hy : evP F y = .d (.v (.int k b))) : OpS P o F S (.d (.v (.bool (decide (a < b))))) S :=
  ops_bin ho hx hy rfl fun w => by simp [eqG_int, binOp, Op.intCmp]
theorem opb_leq {k : IntKind} {a b : Int} (ho : o.op = .binOp .leq ty x y yt) (hx : evP F x = .d (.v (.int k a))) (hy : evP F y = .d (.v (.int k b))) : OpS P o F S (.d (.v (.bool (decide (a ≤ b))))) S :=
  ops_bin ho hx hy rfl fun w => by simp [eqG_int, binOp, Op.intCmp]
theorem opb_gtr {k : IntKind} {a b : Int} (ho : o.op = .binOp .gtr ty x y yt) (hx : evP F x = .d (.v (.int k a))) (hy : evP F y = .d (.v (.int k b))) : OpS P o F S (.d (.v (.bool (decide (b < a))))) S :=
  ops_bin ho hx hy rfl fun w => by simp [eqG_int, binOp, Op.intCmp]
theorem opb_geq {k : IntKind} {a b : Int} (ho : o.op = .binOp .geq ty x y yt) (hx : evP F x = .d (.v (.int k a))) (hy : evP F y = .d (.v (.int k b))) : OpS P o F S (.d (.v (.bool (decide (b ≤ a))))) S :=
  ops_bin ho hx hy rfl fun w => by simp [eqG_int, binOp, Op.intCmp]
theorem opb_eql {k : IntKind} {a b : Int} (ho : o.op = .binOp .eql ty x y yt) (hx : evP F x = .d (.v (.int k a))) (hy : evP F y = .d (.v (.int k b))) : OpS P o F S (.d (.v (.bool (decide (a = b))))) S :=
  ops_bin ho hx hy rfl fun w => by simp [eqG_int, binOp, Op.intCmp]; rfl
theorem opb_neq {k : IntKind} {a b : Int} (ho : o.op = .binOp .neq ty x y yt) (hx : evP F x = .d (.v (.int k a))) (hy : evP F y = .d (.v (.int k b))) : OpS P o F S (.d (.v (.bool (!decide (a = b))))) S :=
  ops_bin ho hx hy rfl fun w => by simp [eqG_int, binOp, Op.intCmp]; rfl
theorem str_beq (a b : ByteArray) : (a.toList == b.toList) = decide (a = b) := by
  rw [Bool.eq_iff_iff]
  simp only [beq_iff_eq, decide_eq_true_eq]
  constructor
  · intro h
    rw [toList_data, toList_data] at h
    cases a; cases b
    simp only [ByteArray.mk.injEq]
    exact Array.toList_inj.1 h
  · rintro rfl; rfl
theorem opb_eqlS {a b : ByteArray} (ho : o.op = .binOp .eql ty x y yt) (hx : evP F x = .d (.v (.string a))) (hy : evP F y = .d (.v (.string b))) : OpS P o F S (.d (.v (.bool (decide (a = b))))) S :=
  ops_bin ho hx hy rfl fun w => by simp only [Sem.run_bind, eqG_str, Result.andThen_ok, binOp, Op.stringOp, str_beq]; rfl
theorem opb_neqS {a b : ByteArray} (ho : o.op = .binOp .neq ty x y yt) (hx : evP F x = .d (.v (.string a))) (hy : evP F y = .d (.v (.string b))) : OpS P o F S (.d (.v (.bool (!decide (a = b))))) S :=
  ops_bin ho hx hy rfl fun w => by simp only [Sem.run_bind, eqG_str, Result.andThen_ok, binOp, Op.stringOp, str_beq]; rfl
theorem opb_addS {a b : ByteArray} (ho : o.op = .binOp .add ty x y yt) (hx : evP F x = .d (.v (.string a))) (hy : evP F y = .d (.v (.string b))) (h : a.size + b.size ≤ 9223372036854775807) : OpS P o F S (.d (.v (.string (a ++ b)))) S :=
  ops_bin ho hx hy rfl fun w => by
    have h' : ¬ (((a.size + b.size : Nat) : Int) > IntKind.i64.max) := by rw [show IntKind.i64.max = 9223372036854775807 from rfl]; omega
    simp only [Sem.run_bind, eqG_str, Result.andThen_ok, binOp, Op.stringOp, if_neg h']; rfl
theorem run_eqB {a b : Bool} {w : World} (hu : P.underlying ty = some .bool) : (Op.equal ty (.bool a) (.bool b)).run P w = .ok (a == b) w := by
  unfold Op.equal
  rw [show Op.maxDepth = 9999 + 1 from rfl, Op.equalIn]
  simp [run_underlying hu]
theorem opb_eqlB {a b : Bool} {I : TyI} (ho : o.op = .binOp .eql ty x y yt) (hI : TyI.of P ty = some I) (hk : I.kind = 6) (hx : evP F x = .d (.v (.bool a))) (hy : evP F y = .d (.v (.bool b))) : OpS P o F S (.d (.v (.bool (decide (a = b))))) S := by
  obtain ⟨i, d, z, hi, hu, hz, _, _, hd⟩ := TyI.inv hI
  rw [hk] at hd; simp at hd
  subst hd
  exact ops_bin ho hx hy rfl fun w => by
    simp only [Sem.run_bind, eqG_bool, Result.andThen_ok, binOp, run_eqB hu, Sem.run_pure, Bool.beq_eq_decide_eq]
theorem opb_neqB {a b : Bool} {I : TyI} (ho : o.op = .binOp .neq ty x y yt) (hI : TyI.of P ty = some I) (hk : I.kind = 6) (hx : evP F x = .d (.v (.bool a))) (hy : evP F y = .d (.v (.bool b))) : OpS P o F S (.d (.v (.bool (!decide (a = b))))) S := by
  obtain ⟨i, d, z, hi, hu, hz, _, _, hd⟩ := TyI.inv hI
  rw [hk] at hd; simp at hd
  subst hd
  exact ops_bin ho hx hy rfl fun w => by
    simp only [Sem.run_bind, eqG_bool, Result.andThen_ok, binOp, run_eqB hu, Sem.run_pure, Bool.beq_eq_decide_eq]
theorem opu_not {a : Bool} (ho : o.op = .unOp .not ty x) (hx : evP F x = .d (.v (.bool a))) : OpS P o F S (.d (.v (.bool (!a)))) S :=
  ops_un ho hx rfl fun w => rfl
theorem opu_neg {k : IntKind} {a : Int} (ho : o.op = .unOp .neg ty x) (hx : evP F x = .d (.v (.int k a))) (h0 : IntKind.lo k ≤ -a) (h1 : -a ≤ IntKind.hi k) : OpS P o F S (.d (.v (.int k (-a)))) S :=
  ops_un ho hx rfl fun w => by simp [Op.unary, Op.intArith, wrap_in k _ h0 h1]
theorem opu_negW {k : IntKind} {a : Int} (ho : o.op = .unOp .neg ty x) (hx : evP F x = .d (.v (.int k a))) : OpS P o F S (.d (.v (.int k (k.wrap (-a))))) S :=
  ops_un ho hx rfl fun w => by simp [Op.unary, Op.intArith]

theorem opc_int {src : TypeId} {I J : TyI} {k : IntKind} {a : Int} (ho : o.op = .convert src ty x) (hJ : TyI.of P src = some J) (hI : TyI.of P ty = some I) (hk : I.kind = 5) (hx : evP F x = .d (.v (.int k a))) (h0 : IntKind.lo I.ik ≤ a) (h1 : a ≤ IntKind.hi I.ik) : OpS P o F S (.d (.v (.int I.ik a))) S := by
  obtain ⟨i, d, z, hi, hu, hz, _, _, hd⟩ := TyI.inv hI
  obtain ⟨i', d', z', hi', hu', _⟩ := TyI.inv hJ
  rw [hk] at hd; simp at hd
  subst hd
  exact ops_conv ho hx rfl fun w => by simp [convert, run_underlying hu, run_underlying hu', Conv.intToInt, wrap_in _ _ h0 h1]
theorem opc_intW {src : TypeId} {I J : TyI} {k : IntKind} {a : Int} (ho : o.op = .convert src ty x) (hJ : TyI.of P src = some J) (hI : TyI.of P ty = some I) (hk : I.kind = 5) (hx : evP F x = .d (.v (.int k a))) : OpS P o F S (.d (.v (.int I.ik (I.ik.wrap a)))) S := by
  obtain ⟨i, d, z, hi, hu, hz, _, _, hd⟩ := TyI.inv hI
  obtain ⟨i', d', z', hi', hu', _⟩ := TyI.inv hJ
  rw [hk] at hd; simp at hd
  subst hd
  exact ops_conv ho hx rfl fun w => by simp [convert, run_underlying hu, run_underlying hu', Conv.intToInt]
theorem opc_str {src : TypeId} {I J : TyI} {s : ByteArray} (ho : o.op = .convert src ty x) (hJ : TyI.of P src = some J) (hI : TyI.of P ty = some I) (hk : I.kind = 1) (hx : evP F x = .d (.v (.string s))) : OpS P o F S (.d (.v (.string s))) S := by
  obtain ⟨i, d, z, hi, hu, hz, _, _, hd⟩ := TyI.inv hI
  obtain ⟨i', d', z', hi', hu', _⟩ := TyI.inv hJ
  rw [hk] at hd; simp at hd
  subst hd
  exact ops_conv ho hx rfl fun w => by simp [convert, run_underlying hu, run_underlying hu']

theorem op_nilCheck {p : PV} (ho : o.op = .nilCheck x) (hx : evP F x = p) (hp : (match p with | .ptr _ _ => true | .ep _ => true | .fn _ _ => true | _ => false) = true) : OpS P o F S p S :=
  OpS.pure fun K w ρ hI h => by
    have h1 := h x (by simp [ho, Op.operands])
    rw [hx] at h1
    refine ⟨ρ x, ?_, h1⟩
    cases p <;> simp at hp
    · simp only [Rep] at h1
      obtain ⟨b, _, h2⟩ := h1
      simp [execOp, ho, h2]
    · simp only [Rep] at h1
      obtain ⟨b, o', h2, _⟩ := h1
      simp [execOp, ho, h2]
    · simp only [Rep] at h1
      obtain ⟨cs, h2, _⟩ := h1
      simp [execOp, ho, h2]
theorem op_makeFunc {f : Nat} {cs : Array Operand} (ho : o.op = .makeFunc (.func f) #[] cs) : OpS P o F S (.fn f (cs.toList.map (evP F))) S :=
  OpS.pure fun K w ρ hI h => by
    have h4 := repL_eval (F := F) (K := K) (w := w) (ρ := ρ) cs.toList fun x hx => h x (by simp [ho, Op.operands]; simpa using hx)
    refine ⟨.func (.func f) #[] (cs.map ρ), by simp [execOp, ho, Instr.makeFunc], ?_⟩
    simp only [Rep]
    exact ⟨cs.toList.map ρ, by congr 1; apply Array.ext'; simp, h4⟩
/-- Values of a struct as they stand. -/
def exactL : List PV → Option (List Value)
  | [] => some []
  | .d (.v x) :: r => (exactL r).map (x :: ·)
  | _ => none
theorem exactL_rep {K : Kx} {w : World} : ∀ {l : List PV} {vs us : List Value}, exactL l = some vs → RepL K w l us → us = vs
  | [], vs, us, h, hr => by simp only [exactL] at h; cases h; simpa [RepL] using hr
  | p :: r, vs, us, h, hr => by
    simp only [RepL] at hr
    obtain ⟨u, us', rfl, h1, h2⟩ := hr
    cases p with
    | d c =>
      cases c with
      | v x =>
        simp only [exactL, Option.map_eq_some_iff] at h
        obtain ⟨vs', h3, rfl⟩ := h
        rw [rep_v h1, exactL_rep h3 h2]
      | sl k l => simp [exactL] at h
    | _ => simp [exactL] at h
theorem op_iface {I : TyI} {l : List PV} {vs : List Value} (ho : o.op = .makeInterface ty x) (hI : TyI.of P ty = some I) (hk : I.kind = 4) (hx : evP F x = .agg l) (hl : exactL l = some vs) : OpS P o F S (.d (.v (.iface ty (.agg vs.toArray)))) S :=
  OpS.pure fun K w ρ hInv h => by
    have h1 := h x (by simp [ho, Op.operands])
    rw [hx] at h1
    simp only [Rep] at h1
    obtain ⟨cs, h2, h3⟩ := h1
    rw [exactL_rep hl h3] at h2
    obtain ⟨i, d, z, hi, hu, hz, _, _, hd⟩ := TyI.inv hI
    rw [hk] at hd; simp at hd
    obtain ⟨fs, rfl, _⟩ := hd
    exact ⟨_, by simp [execOp, ho, h2, Instr.makeInterface, run_underlying hu], rep_mk rfl⟩
theorem op_panic {t : TypeId} {v : Value} (ho : o.op = .panic x) (hx : evP F x = .d (.v (.iface t v))) : OpX P o F S (.iface t v) S := by
  intro ro mm K w a next Q hI h hn
  have h1 := h x (by simp [ho, Op.operands])
  rw [hx] at h1
  have h2 := rep_v h1
  have : (execOp a.eval o).run P w = .halt (.panic (.iface t v)) w := by simp [execOp, ho, h2, Instr.panic, goPanic]
  exact wpIn_pnc (fun c e => by rw [ho] at e; cases e) this (hn w K (Step.refl K w) hI)
theorem op_min {k : IntKind} {a b : Int} {ats : Array TypeId} (ho : o.op = .call { callee := .builtin .min, args := #[x, y], argTypes := ats }) (hx : evP F x = .d (.v (.int k a))) (hy : evP F y = .d (.v (.int k b))) : OpS P o F S (.d (.v (.int k (if b < a then b else a)))) S :=
  OpS.pure fun K w ρ hI h => by
    have h1 := h x (by simp [ho, Op.operands, Call.operands])
    have h2 := h y (by simp [ho, Op.operands, Call.operands])
    rw [hx] at h1
    rw [hy] at h2
    exact ⟨_, by simp [execOp, ho, resolve, invoke, builtin, rep_v h1, rep_v h2, Builtin.min_, Builtin.min2], rep_mk rfl⟩
theorem op_max {k : IntKind} {a b : Int} {ats : Array TypeId} (ho : o.op = .call { callee := .builtin .max, args := #[x, y], argTypes := ats }) (hx : evP F x = .d (.v (.int k a))) (hy : evP F y = .d (.v (.int k b))) : OpS P o F S (.d (.v (.int k (if a < b then b else a)))) S :=
  OpS.pure fun K w ρ hI h => by
    have h1 := h x (by simp [ho, Op.operands, Call.operands])
    have h2 := h y (by simp [ho, Op.operands, Call.operands])
    rw [hx] at h1
    rw [hy] at h2
    exact ⟨_, by simp [execOp, ho, resolve, invoke, builtin, rep_v h1, rep_v h2, Builtin.max_, Builtin.max2], rep_mk rfl⟩
end
end Go.Proofs.YtiledamgmppcmaaGreatDoor
/-! PlQ -/
namespace Go.Proofs.YtiledamgmppcmaaGreatDoor
open Go.RowKit

abbrev St := Option (Prop × PV × PS)

section
variable (T : Nat → TyI) (ok : Nat → Bool) (F : Nat → PV) (S : PS)

def stBin (op : BinOp) (t : TypeId) (x y : Operand) : St :=
  match evP F x, evP F y with
  | .d (.v (.int k a)), .d (.v (.int k' b)) =>
    bif k == k' then
      match op with
      | .add => some (IntKind.lo k ≤ a + b ∧ a + b ≤ IntKind.hi k, .d (.v (.int k (a + b))), S)
      | .sub => some (IntKind.lo k ≤ a - b ∧ a - b ≤ IntKind.hi k, .d (.v (.int k (a - b))), S)
      | .mul => some (IntKind.lo k ≤ a * b ∧ a * b ≤ IntKind.hi k, .d (.v (.int k (a * b))), S)
      | .quo => some (0 ≤ a ∧ 0 < b ∧ a ≤ IntKind.hi k, .d (.v (.int k (a / b))), S)
      | .rem => some (0 ≤ a ∧ 0 < b, .d (.v (.int k (a % b))), S)
      | .lss => some (True, .d (.v (.bool (decide (a < b)))), S)
      | .leq => some (True, .d (.v (.bool (decide (a ≤ b)))), S)
      | .gtr => some (True, .d (.v (.bool (decide (b < a)))), S)
      | .geq => some (True, .d (.v (.bool (decide (b ≤ a)))), S)
      | .eql => some (True, .d (.v (.bool (decide (a = b)))), S)
      | .neq => some (True, .d (.v (.bool (!decide (a = b)))), S)
      | _ => none
    else none
  | .d (.v (.string a)), .d (.v (.string b)) =>
    match op with
    | .add => some (a.size + b.size ≤ 9223372036854775807, .d (.v (.string (a ++ b))), S)
    | .eql => some (True, .d (.v (.bool (decide (a = b)))), S)
    | .neq => some (True, .d (.v (.bool (!decide (a = b)))), S)
    | _ => none
  | .d (.v (.bool a)), .d (.v (.bool b)) =>
    bif ok t && Nat.beq (T t).kind 6 then
      match op with
      | .eql => some (True, .d (.v (.bool (decide (a = b)))), S)
      | .neq => some (True, .d (.v (.bool (!decide (a = b)))), S)
      | _ => none
    else none
  | _, _ => none

/-- A value as it stands. -/
def stId : PV → St
  | .d c => some (True, .d c, S)
  | .ptr id off => some (True, .ptr id off, S)
  | .agg l => some (True, .agg l, S)
  | .tup l => some (True, .tup l, S)
  | .ep l => some (True, .ep l, S)
  | .hd t n => some (True, .hd t n, S)
  | .bsl k id off n cap => some (True, .bsl k id off n cap, S)
  | .fn f l => some (True, .fn f l, S)
  | .un => some (True, .un, S)
  | .any => some (True, .any, S)

def stLoad (t : TypeId) (x : Operand) : St :=
  bif ok t && !(T t).isRow then
    match evP F x with
    | .ptr id off => match S.boxes[id]? with
      | some c => match c[off]? with
        | some p => stId S p
        | none => none
      | none => none
    | .ep (c :: _) => some (True, .d c, S)
    | _ => none
  else none
def stLoadA (t : TypeId) (x : Operand) : St :=
  bif ok t && (T t).isRow then
    match evP F x with
    | .ptr id off => match S.boxes[id]? with
      | some c => bif Nat.ble (off + (T t).size) c.length then some (True, .agg ((c.drop off).take (T t).size), S) else none
      | none => none
    | .ep l => bif Nat.ble (T t).size l.length then some (True, .agg ((l.take (T t).size).map .d), S) else none
    | _ => none
  else none

def partsO : PV → Option (List PV)
  | .agg l => some l
  | .d c => some [.d c]
  | .ptr id off => some [.ptr id off]
  | .ep l => some [.ep l]
  | .hd t n => some [.hd t n]
  | .bsl k id off n cap => some [.bsl k id off n cap]
  | .fn f l => some [.fn f l]
  | _ => none
def stStore (t : TypeId) (x y : Operand) : St :=
  bif ok t then
    match evP F x with
    | .ptr id off => match S.boxes[id]? with
      | some c => match partsO (evP F y) with
        | some l => bif allCell l && Nat.beq l.length (T t).size && Nat.ble (off + (T t).size) c.length then some (True, .un, S.setBox id (putAt c off l)) else none
        | none => none
      | none => none
    | _ => none
  else none
def stField (s : TypeId) (x : Operand) (f : Nat) : St :=
  bif ok s && Nat.beq (T s).kind 4 then
    match (T s).offs[f]? with
    | some (off, _ + 1) => match evP F x with
      | .ptr id p => some (True, .ptr id (p + off), S)
      | .ep l => bif Nat.ble off l.length then some (True, .ep (l.drop off), S) else none
      | _ => none
    | _ => none
  else none

/-- The place of an array's element, or of a slice over a box. -/
def stIndexA (t : TypeId) (x y : Operand) : St :=
  bif ok t then
    match evP F x, evP F y with
    | .ptr id off, .d (.v (.int _ j)) => bif Nat.beq (T t).kind 3 then some (0 ≤ j ∧ j < (T t).len, .ptr id (off + j.toNat * (T t).ek), S) else none
    | .bsl _ id off n _, .d (.v (.int _ j)) => bif Nat.beq (T t).kind 2 then some (0 ≤ j ∧ j < n, .ptr id (off + j.toNat * (T t).ek), S) else none
    | _, _ => none
  else none
def stIndexStr (t : TypeId) (x y : Operand) : St :=
  bif ok t && Nat.beq (T t).kind 1 then
    match evP F x, evP F y with
    | .d (.v (.string s)), .d (.v (.int _ j)) => some (0 ≤ j ∧ j < s.size, .d (.v (.int .u8 (s.data.toList.getD j.toNat 0).toNat)), S)
    | _, _ => none
  else none

def stSlice (t : TypeId) (x : Operand) (lo hi : Option Operand) : St :=
  bif ok t then
    match evP F x with
    | .d (.v (.string s)) => bif Nat.beq (T t).kind 1 then
        match loN F lo, hiN F s.size hi with
        | some j, some h => some (0 ≤ j ∧ j ≤ h ∧ h ≤ s.size, .d (.v (.string (s.extract j.toNat h.toNat))), S)
        | _, _ => none
      else none
    | p => bif Nat.beq (T t).kind 2 then
        match S.toS (T t).ek p with
        | some l => match loN F lo, hiN F l.length hi with
          | some j, some h => some (0 ≤ j ∧ j ≤ h ∧ h ≤ l.length, .d (.sl (T t).ek ((l.take h.toNat).drop j.toNat)), S)
          | _, _ => none
        | none => none
      else none
  else none

def stLen (t : TypeId) (x : Operand) : St :=
  bif ok t then
    match evP F x with
    | .d (.v (.string s)) => bif Nat.beq (T t).kind 1 then some (True, .d (.v (.int .i64 s.size)), S) else none
    | .bsl _ _ _ n _ => bif Nat.beq (T t).kind 2 then some (True, .d (.v (.int .i64 n)), S) else none
    | p => bif Nat.beq (T t).kind 2 then
        match S.toS (T t).ek p with
        | some l => some (True, .d (.v (.int .i64 l.length)), S)
        | none => none
      else none
  else none

def stAppend (t : TypeId) (x y : Operand) : St :=
  bif ok t && Nat.beq (T t).kind 2 then
    match evP F x with
    | .hd tk n => match S.toks[tk]? with
      | some K => bif Nat.beq K.ver n && Nat.beq K.k (T t).ek && Nat.beq K.e (T t).elem then
          match S.toS (T t).ek (evP F y) with
          | some news => some ((K.l.length + news.length) * (T t).eb ≤ 140737488355328 ∧ K.l.length + news.length ≤ 9223372036854775807, .hd tk (n + 1), S.setTok tk ⟨n + 1, K.k, K.l ++ news, K.e⟩)
          | none => none
        else none
      | none => none
    | _ => none
  else none

def stBuild (t : TypeId) (ps : Array (Nat × Operand)) : St :=
  bif ok t && (Nat.beq (T t).kind 3 || Nat.beq (T t).kind 4) && (T t).zero.all (·.oneCell') && (partsP F ps).all (fun x => allCell x.2.parts) then
    match fillP (fun i => if (T t).kind = 3 then some (i * (T t).ek, (T t).ek) else (T t).offs[i]?) ((T t).zero.map fun v => .d (.v v)) (partsP F ps) with
    | some out => some (True, .agg out, S)
    | none => none
  else none
def stBuildSlice (t : TypeId) (len : Nat) (ps : Array (Nat × Operand)) : St :=
  bif ok t && Nat.beq (T t).kind 2 && Nat.ble (len * (T t).ek) 16777216 && Nat.ble len 9223372036854775807 && (partsP F ps).all (fun x => allCell x.2.parts) then
    match fillP (fun i => some (i * (T t).ek, (T t).ek)) (zerosP (T t).ez (len * (T t).ek)) (partsP F ps) with
    | some out => match S.toDs out with
      | some ds => some (True, .d (.sl (T t).ek (chunk (T t).ek len ds)), S)
      | none => none
    | none => none
  else none
/-- .. as a row that may grow. -/
def stBuildRow (t : TypeId) (len : Nat) (ps : Array (Nat × Operand)) : St :=
  bif ok t && Nat.beq (T t).kind 2 && Nat.ble (len * (T t).ek) 16777216 && Nat.ble len 9223372036854775807 && (partsP F ps).all (fun x => allCell x.2.parts) then
    match fillP (fun i => some (i * (T t).ek, (T t).ek)) (zerosP (T t).ez (len * (T t).ek)) (partsP F ps) with
    | some out => match S.toDs out with
      | some ds => some (True, .hd S.toks.length 0, S.addTok ⟨0, (T t).ek, chunk (T t).ek len ds, (T t).elem⟩)
      | none => none
    | none => none
  else none
def stConv (src dst : TypeId) (x : Operand) : St :=
  bif ok src && ok dst then
    match evP F x with
    | .d (.v (.int _ a)) => bif Nat.beq (T dst).kind 5 then some (IntKind.lo (T dst).ik ≤ a ∧ a ≤ IntKind.hi (T dst).ik, .d (.v (.int (T dst).ik a)), S) else none
    | .d (.v (.string s)) => bif Nat.beq (T dst).kind 1 then some (True, .d (.v (.string s)), S) else none
    | _ => none
  else none
def stUn (op : UnOp) (x : Operand) : St :=
  match op, evP F x with
  | .not, .d (.v (.bool a)) => some (True, .d (.v (.bool (!a))), S)
  | .neg, .d (.v (.int k a)) => some (IntKind.lo k ≤ -a ∧ -a ≤ IntKind.hi k, .d (.v (.int k (-a))), S)
  | _, _ => none
def stCall (c : Call) : St :=
  match c with
  | ⟨.builtin .len, ⟨[x]⟩, ⟨[t]⟩⟩ => stLen T ok F S t x
  | ⟨.builtin .min, ⟨[x, y]⟩, _⟩ => match evP F x, evP F y with
    | .d (.v (.int k a)), .d (.v (.int k' b)) => bif k == k' then some (True, .d (.v (.int k (if b < a then b else a))), S) else none
    | _, _ => none
  | ⟨.builtin .max, ⟨[x, y]⟩, _⟩ => match evP F x, evP F y with
    | .d (.v (.int k a)), .d (.v (.int k' b)) => bif k == k' then some (True, .d (.v (.int k (if a < b then b else a))), S) else none
    | _, _ => none
  | _ => none

/-- Operations whose value stands plain. -/
def stepA : Op → St
  | .move x | .assign x => stId S (evP F x)
  | .pick c a b => match evP F c with
    | .d (.v (.bool t)) => match t with
      | true => stId S (evP F a)
      | false => stId S (evP F b)
    | _ => none
  | .load t a => stLoad T ok F S t a
  | .nilCheck x => match evP F x with
    | .ptr id off => some (True, .ptr id off, S)
    | .ep l => some (True, .ep l, S)
    | .fn f l => some (True, .fn f l, S)
    | _ => none
  | .binOp op t x y _ => stBin T ok F S op t x y
  | .unOp op _ x => stUn F S op x
  | .convert src dst x => stConv T ok F S src dst x
  | .slice t x lo hi none => stSlice T ok F S t x lo hi
  | .fieldAddr s x f => stField T ok F S s x f
  | .indexAddr t x i => stIndexA T ok F S t x i
  | .index t x i => stIndexStr T ok F S t x i
  | .extract x i => match evP F x with
    | .tup l => match l[i]? with
      | some p => stId S p
      | none => none
    | _ => none
  | .call c => stCall T ok F S c
  | _ => none
/-- Operations whose value or state is to be laid plain. -/
def stepB : Op → St
  | .alloc t => bif ok t && (T t).zero.all (·.oneCell') then some (True, .ptr S.boxes.length 0, S.addBox ((T t).zero.map fun v => .d (.v v))) else none
  | .box _ x => match partsO (evP F x) with
    | some l => bif allCell l then some (True, .ptr S.boxes.length 0, S.addBox l) else none
    | none => none
  | .build t ps => stBuild T ok F S t ps
  | .buildSlice t len ps => stBuildSlice T ok F S t len ps
  | .load t a => stLoadA T ok F S t a
  | .store t a x => stStore T ok F S t a x
  | .makeFunc (.func f) ⟨[]⟩ cs => some (True, .fn f (cs.toList.map (evP F)), S)
  | .makeInterface t x => bif ok t && Nat.beq (T t).kind 4 then
      match evP F x with
      | .agg l => match exactL l with
        | some vs => some (True, .d (.v (.iface t (.agg vs.toArray))), S)
        | none => none
      | _ => none
    else none
  | .call c => match c with
    | ⟨.builtin .append, ⟨[x, y]⟩, ⟨[t, t']⟩⟩ => bif Nat.beq t t' then stAppend T ok F S t x y else none
    | _ => none
  | _ => none
end

section
variable {P : Program} {T : Nat → TyI} {ok : Nat → Bool} {F : Nat → PV} {S S' : PS} {o : Oper} {C : Prop} {r : PV}

theorem kind_eq {k k' : IntKind} (h : (k == k') = true) : k = k' := by simpa using h

theorem stBin_ok (hT : ∀ t, ok t = true → TyI.of P t = some (T t)) {op : BinOp} {t yt : TypeId} {x y : Operand} (ho : o.op = .binOp op t x y yt) (h : stBin T ok F S op t x y = some (C, r, S')) (hC : C) : OpS P o F S r S' := by
  unfold stBin at h
  split at h
  · rename_i k a k' b hx hy
    cases hk : (k == k') with
    | false => rw [hk] at h; cases h
    | true =>
      rw [hk] at h
      obtain rfl := kind_eq hk
      cases op <;> simp only [cond_true] at h <;> first | cases h | skip
      · exact opb_add ho hx hy hC.1 hC.2
      · exact opb_sub ho hx hy hC.1 hC.2
      · exact opb_mul ho hx hy hC.1 hC.2
      · exact opb_quo ho hx hy hC.1 hC.2.1 hC.2.2
      · exact opb_rem ho hx hy hC.1 hC.2
      · exact opb_eql ho hx hy
      · exact opb_neq ho hx hy
      · exact opb_lss ho hx hy
      · exact opb_leq ho hx hy
      · exact opb_gtr ho hx hy
      · exact opb_geq ho hx hy
  · rename_i a b hx hy
    cases op <;> first | cases h | skip
    · exact opb_addS ho hx hy hC
    · exact opb_eqlS ho hx hy
    · exact opb_neqS ho hx hy
  · rename_i a b hx hy
    cases hk : (ok t && Nat.beq (T t).kind 6) with
    | false => rw [hk] at h; cases h
    | true =>
      rw [hk] at h
      simp only [Bool.and_eq_true] at hk
      have hk2 := Nat.eq_of_beq_eq_true hk.2
      cases op <;> simp only [cond_true] at h <;> first | cases h | skip
      · exact opb_eqlB ho (hT t hk.1) hk2 hx hy
      · exact opb_neqB ho (hT t hk.1) hk2 hx hy
  · cases h
theorem stId_ok {p : PV} (ho : OpS P o F S p S) (h : stId S p = some (C, r, S')) : OpS P o F S r S' := by
  cases p <;> (simp only [stId, Option.some.injEq, Prod.mk.injEq] at h; obtain ⟨_, rfl, rfl⟩ := h; exact ho)
theorem partsO_eq {p : PV} {l : List PV} (h : partsO p = some l) : p.parts = l := by
  cases p <;> simp only [partsO] at h <;> cases h <;> rfl
theorem stLoad_ok (hT : ∀ t, ok t = true → TyI.of P t = some (T t)) {t : TypeId} {x : Operand} (ho : o.op = .load t x) (h : stLoad T ok F S t x = some (C, r, S')) : OpS P o F S r S' := by
  unfold stLoad at h
  cases hk : (ok t && !(T t).isRow) with
  | false => rw [hk] at h; cases h
  | true =>
    rw [hk] at h
    simp only [cond_true] at h
    simp only [Bool.and_eq_true, Bool.not_eq_true'] at hk
    split at h
    · rename_i id off hx
      split at h
      · rename_i c hc
        split at h
        · rename_i p hp; exact stId_ok (opt_load ho (hT t hk.1) hk.2 hx hc hp) h
        · cases h
      · cases h
    · rename_i hx; cases h; exact opt_loadE ho (hT t hk.1) hk.2 hx
    · cases h
theorem stLoadA_ok (hT : ∀ t, ok t = true → TyI.of P t = some (T t)) {t : TypeId} {x : Operand} (ho : o.op = .load t x) (h : stLoadA T ok F S t x = some (C, r, S')) : OpS P o F S r S' := by
  unfold stLoadA at h
  cases hk : (ok t && (T t).isRow) with
  | false => rw [hk] at h; cases h
  | true =>
    rw [hk] at h
    simp only [cond_true] at h
    simp only [Bool.and_eq_true] at hk
    split at h
    · rename_i id off hx
      split at h
      · rename_i c hc
        cases hle : Nat.ble (off + (T t).size) c.length with
        | false => rw [hle] at h; cases h
        | true => rw [hle] at h; cases h; exact opt_loadA ho (hT t hk.1) hk.2 hx hc hle
      · cases h
    · rename_i l hx
      cases hle : Nat.ble (T t).size l.length with
      | false => rw [hle] at h; cases h
      | true => rw [hle] at h; cases h; exact opt_loadEA ho (hT t hk.1) hk.2 hx hle
    · cases h
theorem stStore_ok (hT : ∀ t, ok t = true → TyI.of P t = some (T t)) {t : TypeId} {x y : Operand} (ho : o.op = .store t x y) (h : stStore T ok F S t x y = some (C, r, S')) : OpS P o F S r S' := by
  unfold stStore at h
  cases hk : ok t with
  | false => rw [hk] at h; cases h
  | true =>
    rw [hk] at h
    simp only [cond_true] at h
    split at h
    · rename_i id off hx
      split at h
      · rename_i c hc
        split at h
        · rename_i l hl
          have hl := partsO_eq hl
          subst hl
          cases hb : (allCell (evP F y).parts && Nat.beq (evP F y).parts.length (T t).size && Nat.ble (off + (T t).size) c.length) with
          | false => rw [hb] at h; cases h
          | true =>
            rw [hb] at h; cases h
            simp only [Bool.and_eq_true] at hb
            exact opt_store ho (hT t hk) hx hb.1.1 hc (Nat.eq_of_beq_eq_true hb.1.2) hb.2
        · cases h
      · cases h
    · cases h
theorem stField_ok (hT : ∀ t, ok t = true → TyI.of P t = some (T t)) {s : TypeId} {x : Operand} {f : Nat} (ho : o.op = .fieldAddr s x f) (h : stField T ok F S s x f = some (C, r, S')) : OpS P o F S r S' := by
  unfold stField at h
  cases hk : (ok s && Nat.beq (T s).kind 4) with
  | false => rw [hk] at h; cases h
  | true =>
    rw [hk] at h
    simp only [cond_true] at h
    simp only [Bool.and_eq_true] at hk
    have hk2 := Nat.eq_of_beq_eq_true hk.2
    split at h
    · rename_i off sz hf
      split at h
      · rename_i id p hx; cases h; exact opt_field ho (hT s hk.1) hk2 hf hx
      · rename_i l hx
        cases hle : Nat.ble off l.length with
        | false => rw [hle] at h; cases h
        | true => rw [hle] at h; cases h; exact opt_fieldE ho (hT s hk.1) hk2 hf hx hle
      · cases h
    · cases h
theorem stIndexA_ok (hT : ∀ t, ok t = true → TyI.of P t = some (T t)) {t : TypeId} {x y : Operand} (ho : o.op = .indexAddr t x y) (h : stIndexA T ok F S t x y = some (C, r, S')) (hC : C) : OpS P o F S r S' := by
  unfold stIndexA at h
  cases hk : ok t with
  | false => rw [hk] at h; cases h
  | true =>
    rw [hk] at h
    simp only [cond_true] at h
    split at h
    · rename_i id off kd j hx hy
      cases hb : Nat.beq (T t).kind 3 with
      | false => rw [hb] at h; cases h
      | true => rw [hb] at h; cases h; exact ops_indexA ho (hT t hk) (Nat.eq_of_beq_eq_true hb) hx hy hC.1 hC.2
    · rename_i k' id off n cap kd j hx hy
      cases hb : Nat.beq (T t).kind 2 with
      | false => rw [hb] at h; cases h
      | true => rw [hb] at h; cases h; exact ops_indexB ho (hT t hk) (Nat.eq_of_beq_eq_true hb) hx hy hC.1 hC.2
    · cases h
theorem stIndexStr_ok (hT : ∀ t, ok t = true → TyI.of P t = some (T t)) {t : TypeId} {x y : Operand} (ho : o.op = .index t x y) (h : stIndexStr T ok F S t x y = some (C, r, S')) (hC : C) : OpS P o F S r S' := by
  unfold stIndexStr at h
  cases hk : (ok t && Nat.beq (T t).kind 1) with
  | false => rw [hk] at h; cases h
  | true =>
    rw [hk] at h
    simp only [cond_true] at h
    simp only [Bool.and_eq_true] at hk
    split at h
    · rename_i s kd j hx hy
      cases h
      have hlt : j.toNat < s.data.toList.length := by have := hC.2; simp; omega
      exact ops_indexStr ho (hT t hk.1) (Nat.eq_of_beq_eq_true hk.2) hx hy hC.1 (by rw [List.getD_eq_getElem?_getD, List.getElem?_eq_getElem hlt]; rfl)
    · cases h
theorem stSlice_ok (hT : ∀ t, ok t = true → TyI.of P t = some (T t)) {t : TypeId} {x : Operand} {lo hi : Option Operand} (ho : o.op = .slice t x lo hi none) (h : stSlice T ok F S t x lo hi = some (C, r, S')) (hC : C) : OpS P o F S r S' := by
  unfold stSlice at h
  cases hk : ok t with
  | false => rw [hk] at h; cases h
  | true =>
    rw [hk] at h
    simp only [cond_true] at h
    split at h
    · rename_i s hx
      cases hb : Nat.beq (T t).kind 1 with
      | false => rw [hb] at h; cases h
      | true =>
        rw [hb] at h; simp only [cond_true] at h
        split at h
        · rename_i j h' hlo hhi
          cases h
          exact ops_sliceStr ho (hT t hk) (Nat.eq_of_beq_eq_true hb) hx hlo hhi hC.1 hC.2.1 hC.2.2
        · cases h
    · cases hb : Nat.beq (T t).kind 2 with
      | false => rw [hb] at h; cases h
      | true =>
        rw [hb] at h; simp only [cond_true] at h
        split at h
        · rename_i l hx
          split at h
          · rename_i j h' hlo hhi
            cases h
            exact ops_sliceS ho (hT t hk) (Nat.eq_of_beq_eq_true hb) hx hlo hhi hC.1 hC.2.1 hC.2.2
          · cases h
        · cases h
theorem stLen_ok (hT : ∀ t, ok t = true → TyI.of P t = some (T t)) {t : TypeId} {x : Operand} (ho : o.op = .call { callee := .builtin .len, args := #[x], argTypes := #[t] }) (h : stLen T ok F S t x = some (C, r, S')) : OpS P o F S r S' := by
  unfold stLen at h
  cases hk : ok t with
  | false => rw [hk] at h; cases h
  | true =>
    rw [hk] at h
    simp only [cond_true] at h
    split at h
    · rename_i s hx
      cases hb : Nat.beq (T t).kind 1 with
      | false => rw [hb] at h; cases h
      | true => rw [hb] at h; cases h; exact ops_lenStr ho (hT t hk) (Nat.eq_of_beq_eq_true hb) hx
    · rename_i k id off n cap hx
      cases hb : Nat.beq (T t).kind 2 with
      | false => rw [hb] at h; cases h
      | true => rw [hb] at h; cases h; exact ops_lenBox ho (hT t hk) (Nat.eq_of_beq_eq_true hb) hx
    · cases hb : Nat.beq (T t).kind 2 with
      | false => rw [hb] at h; cases h
      | true =>
        rw [hb] at h; simp only [cond_true] at h
        split at h
        · rename_i l hx; cases h; exact ops_lenS ho (hT t hk) (Nat.eq_of_beq_eq_true hb) hx
        · cases h
theorem stAppend_ok (hT : ∀ t, ok t = true → TyI.of P t = some (T t)) {t : TypeId} {x y : Operand} (ho : o.op = .call { callee := .builtin .append, args := #[x, y], argTypes := #[t, t] }) (h : stAppend T ok F S t x y = some (C, r, S')) (hC : C) : OpS P o F S r S' := by
  unfold stAppend at h
  cases hk : (ok t && Nat.beq (T t).kind 2) with
  | false => rw [hk] at h; cases h
  | true =>
    rw [hk] at h
    simp only [cond_true] at h
    simp only [Bool.and_eq_true] at hk
    split at h
    · rename_i tk n hx
      split at h
      · rename_i Kt hK
        cases hb : (Nat.beq Kt.ver n && Nat.beq Kt.k (T t).ek && Nat.beq Kt.e (T t).elem) with
        | false => rw [hb] at h; cases h
        | true =>
          rw [hb] at h; simp only [cond_true] at h
          simp only [Bool.and_eq_true] at hb
          have e1 := Nat.eq_of_beq_eq_true hb.1.1
          subst e1
          split at h
          · rename_i news hy
            cases h
            exact ops_appendS ho (hT t hk.1) (Nat.eq_of_beq_eq_true hk.2) hx hK (Nat.eq_of_beq_eq_true hb.1.2) (Nat.eq_of_beq_eq_true hb.2) hy hC.1 hC.2
          · cases h
      · cases h
    · cases h
theorem stBuild_ok (hT : ∀ t, ok t = true → TyI.of P t = some (T t)) {t : TypeId} {ps : Array (Nat × Operand)} (ho : o.op = .build t ps) (h : stBuild T ok F S t ps = some (C, r, S')) : OpS P o F S r S' := by
  unfold stBuild at h
  cases hk : (ok t && (Nat.beq (T t).kind 3 || Nat.beq (T t).kind 4) && (T t).zero.all (·.oneCell') && (partsP F ps).all (fun x => allCell x.2.parts)) with
  | false => rw [hk] at h; cases h
  | true =>
    rw [hk] at h
    simp only [cond_true] at h
    simp only [Bool.and_eq_true, Bool.or_eq_true] at hk
    split at h
    · rename_i out hf
      cases h
      exact ops_build ho (hT t hk.1.1.1) (hk.1.1.2.imp Nat.eq_of_beq_eq_true Nat.eq_of_beq_eq_true) hk.1.2 hk.2 hf
    · cases h
theorem stBuildSlice_ok (hT : ∀ t, ok t = true → TyI.of P t = some (T t)) {t : TypeId} {len : Nat} {ps : Array (Nat × Operand)} (ho : o.op = .buildSlice t len ps) (h : stBuildSlice T ok F S t len ps = some (C, r, S')) : OpS P o F S r S' := by
  unfold stBuildSlice at h
  cases hk : (ok t && Nat.beq (T t).kind 2 && Nat.ble (len * (T t).ek) 16777216 && Nat.ble len 9223372036854775807 && (partsP F ps).all (fun x => allCell x.2.parts)) with
  | false => rw [hk] at h; cases h
  | true =>
    rw [hk] at h
    simp only [cond_true] at h
    simp only [Bool.and_eq_true] at hk
    split at h
    · rename_i out hf
      split at h
      · rename_i ds hd
        cases h
        exact ops_buildSlice ho (hT t hk.1.1.1.1) (Nat.eq_of_beq_eq_true hk.1.1.1.2) (Nat.le_of_ble_eq_true hk.1.1.2) hk.2 hf hd (Nat.le_of_ble_eq_true hk.1.2)
      · cases h
    · cases h
theorem stBuildRow_ok (hT : ∀ t, ok t = true → TyI.of P t = some (T t)) {t : TypeId} {len : Nat} {ps : Array (Nat × Operand)} (ho : o.op = .buildSlice t len ps) (h : stBuildRow T ok F S t len ps = some (C, r, S')) : OpS P o F S r S' := by
  unfold stBuildRow at h
  cases hk : (ok t && Nat.beq (T t).kind 2 && Nat.ble (len * (T t).ek) 16777216 && Nat.ble len 9223372036854775807 && (partsP F ps).all (fun x => allCell x.2.parts)) with
  | false => rw [hk] at h; cases h
  | true =>
    rw [hk] at h
    simp only [cond_true] at h
    simp only [Bool.and_eq_true] at hk
    split at h
    · rename_i out hf
      split at h
      · rename_i ds hd
        cases h
        exact ops_buildRow ho (hT t hk.1.1.1.1) (Nat.eq_of_beq_eq_true hk.1.1.1.2) (Nat.le_of_ble_eq_true hk.1.1.2) hk.2 hf hd (Nat.le_of_ble_eq_true hk.1.2)
      · cases h
    · cases h
theorem stConv_ok (hT : ∀ t, ok t = true → TyI.of P t = some (T t)) {src dst : TypeId} {x : Operand} (ho : o.op = .convert src dst x) (h : stConv T ok F S src dst x = some (C, r, S')) (hC : C) : OpS P o F S r S' := by
  unfold stConv at h
  cases hk : (ok src && ok dst) with
  | false => rw [hk] at h; cases h
  | true =>
    rw [hk] at h
    simp only [cond_true] at h
    simp only [Bool.and_eq_true] at hk
    split at h
    · rename_i k a hx
      cases hb : Nat.beq (T dst).kind 5 with
      | false => rw [hb] at h; cases h
      | true => rw [hb] at h; cases h; exact opc_int ho (hT src hk.1) (hT dst hk.2) (Nat.eq_of_beq_eq_true hb) hx hC.1 hC.2
    · rename_i s hx
      cases hb : Nat.beq (T dst).kind 1 with
      | false => rw [hb] at h; cases h
      | true => rw [hb] at h; cases h; exact opc_str ho (hT src hk.1) (hT dst hk.2) (Nat.eq_of_beq_eq_true hb) hx
    · cases h
theorem stUn_ok {op : UnOp} {t : TypeId} {x : Operand} (ho : o.op = .unOp op t x) (h : stUn F S op x = some (C, r, S')) (hC : C) : OpS P o F S r S' := by
  unfold stUn at h
  split at h
  · rename_i a hx; cases h; exact opu_not ho hx
  · rename_i k a hx; cases h; exact opu_neg ho hx hC.1 hC.2
  · cases h
theorem stCall_ok (hT : ∀ t, ok t = true → TyI.of P t = some (T t)) {c : Call} (ho : o.op = .call c) (h : stCall T ok F S c = some (C, r, S')) : OpS P o F S r S' := by
  unfold stCall at h
  split at h
  · exact stLen_ok hT ho h
  · split at h
    · rename_i k a k' b hx hy
      cases hk : (k == k') with
      | false => rw [hk] at h; cases h
      | true => rw [hk] at h; obtain rfl := kind_eq hk; cases h; exact op_min ho hx hy
    · cases h
  · split at h
    · rename_i k a k' b hx hy
      cases hk : (k == k') with
      | false => rw [hk] at h; cases h
      | true => rw [hk] at h; obtain rfl := kind_eq hk; cases h; exact op_max ho hx hy
    · cases h
  · cases h

theorem stepA_ok (hT : ∀ t, ok t = true → TyI.of P t = some (T t)) (h : stepA T ok F S o.op = some (C, r, S')) (hC : C) : OpS P o F S r S' := by
  generalize ho : o.op = p at h
  unfold stepA at h
  split at h
  · exact stId_ok (ops_move ho) h
  · exact stId_ok (ops_assign ho) h
  · split at h
    · rename_i t hc
      have := ops_pick (P := P) (S := S) ho hc
      cases t
      · exact stId_ok (by simpa using this) h
      · exact stId_ok (by simpa using this) h
    · cases h
  · exact stLoad_ok hT ho h
  · split at h
    · rename_i hx; cases h; exact op_nilCheck ho hx rfl
    · rename_i hx; cases h; exact op_nilCheck ho hx rfl
    · rename_i hx; cases h; exact op_nilCheck ho hx rfl
    · cases h
  · exact stBin_ok hT ho h hC
  · exact stUn_ok ho h hC
  · exact stConv_ok hT ho h hC
  · exact stSlice_ok hT ho h hC
  · exact stField_ok hT ho h
  · exact stIndexA_ok hT ho h hC
  · exact stIndexStr_ok hT ho h hC
  · split at h
    · rename_i l hx
      split at h
      · rename_i p hp; exact stId_ok (ops_extract ho hx hp) h
      · cases h
    · cases h
  · exact stCall_ok hT ho h
  · cases h
theorem stepB_ok (hT : ∀ t, ok t = true → TyI.of P t = some (T t)) (h : stepB T ok F S o.op = some (C, r, S')) (hC : C) : OpS P o F S r S' := by
  generalize ho : o.op = p at h
  unfold stepB at h
  split at h
  · rename_i t
    cases hk : (ok t && (T t).zero.all (·.oneCell')) with
    | false => rw [hk] at h; cases h
    | true =>
      rw [hk] at h; cases h
      simp only [Bool.and_eq_true] at hk
      exact opt_alloc ho (hT t hk.1) hk.2
  · rename_i t x
    split at h
    · rename_i l hl
      have hl := partsO_eq hl
      subst hl
      cases hk : allCell (evP F x).parts with
      | false => rw [hk] at h; cases h
      | true => rw [hk] at h; cases h; exact ops_box ho rfl hk
    · cases h
  · exact stBuild_ok hT ho h
  · exact stBuildSlice_ok hT ho h
  · exact stLoadA_ok hT ho h
  · exact stStore_ok hT ho h
  · cases h; exact op_makeFunc ho
  · rename_i t x
    cases hk : (ok t && Nat.beq (T t).kind 4) with
    | false => rw [hk] at h; cases h
    | true =>
      rw [hk] at h
      simp only [cond_true] at h
      simp only [Bool.and_eq_true] at hk
      split at h
      · rename_i l hx
        split at h
        · rename_i vs hv; cases h; exact op_iface ho (hT t hk.1) (Nat.eq_of_beq_eq_true hk.2) hx hv
        · cases h
      · cases h
  · split at h
    · rename_i x y t t'
      cases hb : Nat.beq t t' with
      | false => rw [hb] at h; cases h
      | true =>
        rw [hb] at h
        obtain rfl := Nat.eq_of_beq_eq_true hb
        exact stAppend_ok hT ho h hC
    · cases h
  · cases h
end
end Go.Proofs.YtiledamgmppcmaaGreatDoor
/-! Ty -/
namespace Go.Proofs.YtiledamgmppcmaaGreatDoor
open Go.RowKit

def tyNone : TyI := ⟨0, 0, [], [], 0, 0, 0, [], 0, .i64⟩
def tyTab : List TyI := [
  ⟨0, 1, [.tuple #[]], [], 0, 0, 0, [], 0, .i64⟩,
  ⟨0, 1, [.nilFunc], [], 0, 0, 0, [], 0, .i64⟩,
  ⟨5, 1, [.int .i64 0], [], 0, 0, 0, [], 0, .i64⟩,
  ⟨5, 1, [.int .i64 0], [], 0, 0, 0, [], 0, .i64⟩,
  ⟨6, 1, [.bool false], [], 0, 0, 0, [], 0, .i64⟩,
  ⟨5, 1, [.int .u8 0], [], 0, 0, 0, [], 0, .u8⟩,
  ⟨5, 1, [.int .u8 0], [], 0, 0, 0, [], 0, .u8⟩,
  ⟨4, 4, [.int .i64 0, .int .i64 0, .bool false, .int .u8 0], [(0, 1), (1, 1), (2, 1), (3, 1)], 0, 0, 0, [], 0, .i64⟩,
  ⟨4, 4, [.int .i64 0, .int .i64 0, .bool false, .int .u8 0], [(0, 1), (1, 1), (2, 1), (3, 1)], 0, 0, 0, [], 0, .i64⟩,
  ⟨1, 1, [.string ⟨#[]⟩], [], 0, 0, 0, [], 0, .i64⟩,
  ⟨1, 1, [.string ⟨#[]⟩], [], 0, 0, 0, [], 0, .i64⟩,
  ⟨1, 1, [.string ⟨#[]⟩], [], 0, 0, 0, [], 0, .i64⟩,
  ⟨5, 1, [.int .u64 0], [], 0, 0, 0, [], 0, .u64⟩,
  ⟨4, 2, [.string ⟨#[]⟩, .int .u64 0], [(0, 1), (1, 1)], 0, 0, 0, [], 0, .i64⟩,
  ⟨4, 2, [.string ⟨#[]⟩, .int .u64 0], [(0, 1), (1, 1)], 0, 0, 0, [], 0, .i64⟩,
  ⟨0, 1, [.pointer none], [], 0, 0, 0, [], 0, .i64⟩,
  ⟨0, 1, [.pointer none], [], 0, 0, 0, [], 0, .i64⟩,
  ⟨0, 1, [.pointer none], [], 0, 0, 0, [], 0, .i64⟩,
  ⟨4, 1, [.pointer none], [(0, 1)], 0, 0, 0, [], 0, .i64⟩,
  ⟨4, 1, [.pointer none], [(0, 1)], 0, 0, 0, [], 0, .i64⟩,
  ⟨0, 1, [.nilIface], [], 0, 0, 0, [], 0, .i64⟩,
  ⟨5, 1, [.int .i32 0], [], 0, 0, 0, [], 0, .i32⟩,
  ⟨2, 1, [.slice none 0 0], [], 24, 4, 56, [.int .i64 0, .int .i64 0, .string ⟨#[]⟩, .slice none 0 0], 0, .i64⟩,
  ⟨4, 4, [.int .i64 0, .int .i64 0, .string ⟨#[]⟩, .slice none 0 0], [(0, 1), (1, 1), (2, 1), (3, 1)], 0, 0, 0, [], 0, .i64⟩,
  ⟨4, 4, [.int .i64 0, .int .i64 0, .string ⟨#[]⟩, .slice none 0 0], [(0, 1), (1, 1), (2, 1), (3, 1)], 0, 0, 0, [], 0, .i64⟩,
  ⟨2, 1, [.slice none 0 0], [], 5, 1, 1, [.int .u8 0], 0, .i64⟩,
  ⟨4, 8, [.int .u8 0, .int .u8 0, .int .i64 0, .string ⟨#[]⟩, .int .i64 0, .int .i64 0, .string ⟨#[]⟩, .slice none 0 0], [(0, 1), (1, 1), (2, 1), (3, 1), (4, 4)], 0, 0, 0, [], 0, .i64⟩,
  ⟨4, 8, [.int .u8 0, .int .u8 0, .int .i64 0, .string ⟨#[]⟩, .int .i64 0, .int .i64 0, .string ⟨#[]⟩, .slice none 0 0], [(0, 1), (1, 1), (2, 1), (3, 1), (4, 4)], 0, 0, 0, [], 0, .i64⟩,
  ⟨2, 1, [.slice none 0 0], [], 9, 1, 16, [.string ⟨#[]⟩], 0, .i64⟩,
  ⟨3, 24, [.int .i64 0, .int .i64 0, .string ⟨#[]⟩, .slice none 0 0, .int .i64 0, .int .i64 0, .string ⟨#[]⟩, .slice none 0 0, .int .i64 0, .int .i64 0, .string ⟨#[]⟩, .slice none 0 0, .int .i64 0, .int .i64 0, .string ⟨#[]⟩, .slice none 0 0, .int .i64 0, .int .i64 0, .string ⟨#[]⟩, .slice none 0 0, .int .i64 0, .int .i64 0, .string ⟨#[]⟩, .slice none 0 0], [], 24, 4, 56, [], 6, .i64⟩,
  ⟨0, 1, [.nilFunc], [], 0, 0, 0, [], 0, .i64⟩,
  ⟨5, 1, [.int .i64 0], [], 0, 0, 0, [], 0, .i64⟩,
  ⟨0, 1, [.tuple { toList := [.slice none 0 0, .int .i64 0] }], [], 0, 0, 0, [], 0, .i64⟩,
  ⟨0, 1, [.nilFunc], [], 0, 0, 0, [], 0, .i64⟩,
  ⟨0, 1, [.tuple { toList := [.string ⟨#[]⟩, .int .i64 0] }], [], 0, 0, 0, [], 0, .i64⟩,
  ⟨0, 1, [.nilFunc], [], 0, 0, 0, [], 0, .i64⟩,
  ⟨0, 1, [.nilFunc], [], 0, 0, 0, [], 0, .i64⟩,
  ⟨0, 1, [.nilFunc], [], 0, 0, 0, [], 0, .i64⟩,
  ⟨0, 1, [.nilFunc], [], 0, 0, 0, [], 0, .i64⟩,
  ⟨3, 3, [.slice none 0 0, .slice none 0 0, .slice none 0 0], [], 28, 1, 24, [], 3, .i64⟩,
  ⟨0, 1, [.tuple { toList := [.int .i64 0, .int .i64 0] }], [], 0, 0, 0, [], 0, .i64⟩,
  ⟨0, 1, [.nilFunc], [], 0, 0, 0, [], 0, .i64⟩,
  ⟨0, 1, [.nilFunc], [], 0, 0, 0, [], 0, .i64⟩,
  ⟨0, 1, [.nilFunc], [], 0, 0, 0, [], 0, .i64⟩,
  ⟨2, 1, [.slice none 0 0], [], 47, 3, 32, [.int .i64 0, .string ⟨#[]⟩, .int .i64 0], 0, .i64⟩,
  ⟨2, 1, [.slice none 0 0], [], 50, 4, 40, [.int .u8 0, .int .u8 0, .slice none 0 0, .int .u32 0], 0, .i64⟩,
  ⟨4, 3, [.int .i64 0, .string ⟨#[]⟩, .int .i64 0], [(0, 1), (1, 1), (2, 1)], 0, 0, 0, [], 0, .i64⟩,
  ⟨4, 3, [.int .i64 0, .string ⟨#[]⟩, .int .i64 0], [(0, 1), (1, 1), (2, 1)], 0, 0, 0, [], 0, .i64⟩,
  ⟨5, 1, [.int .u32 0], [], 0, 0, 0, [], 0, .u32⟩,
  ⟨4, 4, [.int .u8 0, .int .u8 0, .slice none 0 0, .int .u32 0], [(0, 1), (1, 1), (2, 1), (3, 1)], 0, 0, 0, [], 0, .i64⟩,
  ⟨4, 4, [.int .u8 0, .int .u8 0, .slice none 0 0, .int .u32 0], [(0, 1), (1, 1), (2, 1), (3, 1)], 0, 0, 0, [], 0, .i64⟩,
  ⟨0, 1, [.nilFunc], [], 0, 0, 0, [], 0, .i64⟩,
  ⟨0, 1, [.tuple { toList := [.slice none 0 0, .int .i64 0, .int .i64 0] }], [], 0, 0, 0, [], 0, .i64⟩,
  ⟨0, 1, [.nilFunc], [], 0, 0, 0, [], 0, .i64⟩,
  ⟨0, 1, [.nilFunc], [], 0, 0, 0, [], 0, .i64⟩,
  ⟨0, 1, [.nilFunc], [], 0, 0, 0, [], 0, .i64⟩,
  ⟨3, 6, [.slice none 0 0, .slice none 0 0, .slice none 0 0, .slice none 0 0, .slice none 0 0, .slice none 0 0], [], 44, 1, 24, [], 6, .i64⟩,
  ⟨3, 4, [.int .i64 0, .int .i64 0, .int .i64 0, .int .i64 0], [], 3, 1, 8, [], 4, .i64⟩,
  ⟨0, 1, [.tuple { toList := [.agg { toList := [.int .i64 0, .int .i64 0, .string ⟨#[]⟩, .slice none 0 0] }, .int .i64 0, .int .i64 0] }], [], 0, 0, 0, [], 0, .i64⟩,
  ⟨0, 1, [.nilFunc], [], 0, 0, 0, [], 0, .i64⟩,
  ⟨0, 1, [.nilFunc], [], 0, 0, 0, [], 0, .i64⟩,
  ⟨0, 1, [.nilFunc], [], 0, 0, 0, [], 0, .i64⟩,
  ⟨3, 6, [.string ⟨#[]⟩, .string ⟨#[]⟩, .string ⟨#[]⟩, .string ⟨#[]⟩, .string ⟨#[]⟩, .string ⟨#[]⟩], [], 9, 1, 16, [], 6, .i64⟩,
  ⟨0, 1, [.nilFunc], [], 0, 0, 0, [], 0, .i64⟩,
  ⟨2, 1, [.slice none 0 0], [], 3, 1, 8, [.int .i64 0], 0, .i64⟩,
  ⟨5, 1, [.int .i16 0], [], 0, 0, 0, [], 0, .i16⟩,
  ⟨3, 3, [.int .i16 0, .int .i16 0, .int .i16 0], [], 65, 1, 2, [], 3, .i64⟩,
  ⟨4, 5, [.slice none 0 0, .slice none 0 0, .int .i16 0, .int .i16 0, .int .i16 0], [(0, 1), (1, 1), (2, 3)], 0, 0, 0, [], 0, .i64⟩,
  ⟨4, 5, [.slice none 0 0, .slice none 0 0, .int .i16 0, .int .i16 0, .int .i16 0], [(0, 1), (1, 1), (2, 3)], 0, 0, 0, [], 0, .i64⟩,
  ⟨0, 1, [.nilFunc], [], 0, 0, 0, [], 0, .i64⟩,
  ⟨4, 2, [.slice none 0 0, .slice none 0 0], [(0, 1), (1, 1)], 0, 0, 0, [], 0, .i64⟩,
  ⟨3, 8, [.slice none 0 0, .slice none 0 0, .slice none 0 0, .slice none 0 0, .slice none 0 0, .slice none 0 0, .slice none 0 0, .slice none 0 0], [], 70, 2, 48, [], 4, .i64⟩,
  ⟨1, 1, [.string ⟨#[]⟩], [], 0, 0, 0, [], 0, .i64⟩,
  ⟨4, 3, [.int .i64 0, .string ⟨#[]⟩, .bool false], [(0, 1), (1, 1), (2, 1)], 0, 0, 0, [], 0, .i64⟩,
  ⟨4, 3, [.int .i64 0, .string ⟨#[]⟩, .bool false], [(0, 1), (1, 1), (2, 1)], 0, 0, 0, [], 0, .i64⟩,
  ⟨0, 1, [.tuple { toList := [.agg { toList := [.int .i64 0, .string ⟨#[]⟩, .bool false] }, .int .i64 0] }], [], 0, 0, 0, [], 0, .i64⟩,
  ⟨0, 1, [.nilFunc], [], 0, 0, 0, [], 0, .i64⟩,
  ⟨0, 1, [.nilFunc], [], 0, 0, 0, [], 0, .i64⟩,
  ⟨0, 1, [.nilFunc], [], 0, 0, 0, [], 0, .i64⟩,
  ⟨0, 1, [.nilFunc], [], 0, 0, 0, [], 0, .i64⟩,
  ⟨0, 1, [.nilFunc], [], 0, 0, 0, [], 0, .i64⟩,
  ⟨0, 1, [.nilFunc], [], 0, 0, 0, [], 0, .i64⟩,
  ⟨0, 1, [.nilFunc], [], 0, 0, 0, [], 0, .i64⟩,
  ⟨0, 1, [.nilFunc], [], 0, 0, 0, [], 0, .i64⟩,
  ⟨0, 1, [.nilFunc], [], 0, 0, 0, [], 0, .i64⟩,
  ⟨0, 1, [.nilFunc], [], 0, 0, 0, [], 0, .i64⟩,
  ⟨0, 1, [.nilFunc], [], 0, 0, 0, [], 0, .i64⟩,
  ⟨3, 48, [.int .i64 0, .int .i64 0, .string ⟨#[]⟩, .slice none 0 0, .int .i64 0, .int .i64 0, .string ⟨#[]⟩, .slice none 0 0, .int .i64 0, .int .i64 0, .string ⟨#[]⟩, .slice none 0 0, .int .i64 0, .int .i64 0, .string ⟨#[]⟩, .slice none 0 0, .int .i64 0, .int .i64 0, .string ⟨#[]⟩, .slice none 0 0, .int .i64 0, .int .i64 0, .string ⟨#[]⟩, .slice none 0 0, .int .i64 0, .int .i64 0, .string ⟨#[]⟩, .slice none 0 0, .int .i64 0, .int .i64 0, .string ⟨#[]⟩, .slice none 0 0, .int .i64 0, .int .i64 0, .string ⟨#[]⟩, .slice none 0 0, .int .i64 0, .int .i64 0, .string ⟨#[]⟩, .slice none 0 0, .int .i64 0, .int .i64 0, .string ⟨#[]⟩, .slice none 0 0, .int .i64 0, .int .i64 0, .string ⟨#[]⟩, .slice none 0 0], [], 24, 4, 56, [], 12, .i64⟩,
  ⟨0, 1, [.nilFunc], [], 0, 0, 0, [], 0, .i64⟩,
  ⟨0, 1, [.nilFunc], [], 0, 0, 0, [], 0, .i64⟩,
  ⟨0, 1, [.tuple { toList := [.string ⟨#[]⟩, .int .i64 0] }], [], 0, 0, 0, [], 0, .i64⟩,
  ⟨0, 1, [.nilFunc], [], 0, 0, 0, [], 0, .i64⟩,
  ⟨0, 1, [.nilFunc], [], 0, 0, 0, [], 0, .i64⟩,
  ⟨3, 6, [.bool false, .bool false, .bool false, .bool false, .bool false, .bool false], [], 4, 1, 1, [], 6, .i64⟩,
  ⟨0, 1, [.nilFunc], [], 0, 0, 0, [], 0, .i64⟩,
  ⟨0, 1, [.tuple { toList := [.agg { toList := [.int .i64 0, .int .i64 0, .string ⟨#[]⟩, .slice none 0 0] }, .int .i64 0] }], [], 0, 0, 0, [], 0, .i64⟩,
  ⟨0, 1, [.nilFunc], [], 0, 0, 0, [], 0, .i64⟩,
  ⟨0, 1, [.nilFunc], [], 0, 0, 0, [], 0, .i64⟩,
  ⟨0, 1, [.nilFunc], [], 0, 0, 0, [], 0, .i64⟩,
  ⟨0, 1, [.nilFunc], [], 0, 0, 0, [], 0, .i64⟩,
  ⟨0, 1, [.nilFunc], [], 0, 0, 0, [], 0, .i64⟩,
  ⟨0, 1, [.nilFunc], [], 0, 0, 0, [], 0, .i64⟩,
  ⟨0, 1, [.nilFunc], [], 0, 0, 0, [], 0, .i64⟩,
  ⟨0, 1, [.nilFunc], [], 0, 0, 0, [], 0, .i64⟩,
  ⟨0, 1, [.nilFunc], [], 0, 0, 0, [], 0, .i64⟩,
  ⟨0, 1, [.nilFunc], [], 0, 0, 0, [], 0, .i64⟩,
  ⟨0, 1, [.nilFunc], [], 0, 0, 0, [], 0, .i64⟩,
  ⟨0, 1, [.tuple { toList := [.agg { toList := [.int .i64 0, .string ⟨#[]⟩, .int .i64 0] }, .bool false] }], [], 0, 0, 0, [], 0, .i64⟩,
  ⟨0, 1, [.nilFunc], [], 0, 0, 0, [], 0, .i64⟩,
  ⟨0, 1, [.nilFunc], [], 0, 0, 0, [], 0, .i64⟩,
  ⟨0, 1, [.pointer none], [], 0, 0, 0, [], 0, .i64⟩,
  ⟨4, 2, [.slice none 0 0, .int .i64 0], [(0, 1), (1, 1)], 0, 0, 0, [], 0, .i64⟩,
  ⟨4, 2, [.slice none 0 0, .int .i64 0], [(0, 1), (1, 1)], 0, 0, 0, [], 0, .i64⟩,
  ⟨0, 1, [.nilFunc], [], 0, 0, 0, [], 0, .i64⟩,
  ⟨0, 1, [.nilFunc], [], 0, 0, 0, [], 0, .i64⟩,
  ⟨0, 1, [.nilFunc], [], 0, 0, 0, [], 0, .i64⟩,
  ⟨0, 1, [.nilFunc], [], 0, 0, 0, [], 0, .i64⟩,
  ⟨0, 1, [.pointer none], [], 0, 0, 0, [], 0, .i64⟩,
  ⟨4, 2, [.slice none 0 0, .int .i64 0], [(0, 1), (1, 1)], 0, 0, 0, [], 0, .i64⟩,
  ⟨4, 2, [.slice none 0 0, .int .i64 0], [(0, 1), (1, 1)], 0, 0, 0, [], 0, .i64⟩,
  ⟨4, 2, [.slice none 0 0, .int .i64 0], [(0, 2)], 0, 0, 0, [], 0, .i64⟩,
  ⟨4, 2, [.slice none 0 0, .int .i64 0], [(0, 2)], 0, 0, 0, [], 0, .i64⟩,
  ⟨4, 0, [], [], 0, 0, 0, [], 0, .i64⟩,
  ⟨4, 0, [], [], 0, 0, 0, [], 0, .i64⟩,
  ⟨0, 1, [.tuple { toList := [.agg #[], .bool false] }], [], 0, 0, 0, [], 0, .i64⟩,
  ⟨0, 1, [.nilFunc], [], 0, 0, 0, [], 0, .i64⟩,
  ⟨0, 1, [.pointer none], [], 0, 0, 0, [], 0, .i64⟩,
  ⟨4, 3, [.slice none 0 0, .int .i64 0, .bool false], [(0, 1), (1, 1), (2, 1)], 0, 0, 0, [], 0, .i64⟩,
  ⟨4, 3, [.slice none 0 0, .int .i64 0, .bool false], [(0, 1), (1, 1), (2, 1)], 0, 0, 0, [], 0, .i64⟩,
  ⟨4, 2, [.slice none 0 0, .slice none 0 0], [(0, 1), (1, 1)], 0, 0, 0, [], 0, .i64⟩,
  ⟨4, 2, [.slice none 0 0, .slice none 0 0], [(0, 1), (1, 1)], 0, 0, 0, [], 0, .i64⟩,
  ⟨4, 0, [], [], 0, 0, 0, [], 0, .i64⟩,
  ⟨0, 1, [.tuple { toList := [.agg #[], .bool false] }], [], 0, 0, 0, [], 0, .i64⟩,
  ⟨2, 1, [.slice none 0 0], [], 48, 1, 4, [.int .u32 0], 0, .i64⟩,
  ⟨2, 1, [.slice none 0 0], [], 48, 1, 4, [.int .u32 0], 0, .i64⟩,
  ⟨4, 2, [.bool false, .slice none 0 0], [(0, 1), (1, 1)], 0, 0, 0, [], 0, .i64⟩,
  ⟨4, 2, [.bool false, .slice none 0 0], [(0, 1), (1, 1)], 0, 0, 0, [], 0, .i64⟩,
  ⟨4, 4, [.bool false, .slice none 0 0, .bool false, .slice none 0 0], [(0, 2), (2, 2)], 0, 0, 0, [], 0, .i64⟩,
  ⟨4, 4, [.bool false, .slice none 0 0, .bool false, .slice none 0 0], [(0, 2), (2, 2)], 0, 0, 0, [], 0, .i64⟩,
  ⟨4, 5, [.bool false, .slice none 0 0, .bool false, .slice none 0 0, .bool false], [(0, 4), (4, 1)], 0, 0, 0, [], 0, .i64⟩,
  ⟨4, 5, [.bool false, .slice none 0 0, .bool false, .slice none 0 0, .bool false], [(0, 4), (4, 1)], 0, 0, 0, [], 0, .i64⟩,
  ⟨0, 1, [.nilFunc], [], 0, 0, 0, [], 0, .i64⟩,
  ⟨0, 1, [.nilFunc], [], 0, 0, 0, [], 0, .i64⟩,
  ⟨0, 1, [.tuple { toList := [.agg { toList := [.int .i64 0, .string ⟨#[]⟩, .bool false] }, .bool false] }], [], 0, 0, 0, [], 0, .i64⟩,
  ⟨0, 1, [.nilFunc], [], 0, 0, 0, [], 0, .i64⟩,
  ⟨4, 1, [.int .i64 0], [(0, 1)], 0, 0, 0, [], 0, .i64⟩,
  ⟨4, 1, [.int .i64 0], [(0, 1)], 0, 0, 0, [], 0, .i64⟩,
  ⟨0, 1, [.tuple { toList := [.agg { toList := [.int .i64 0] }, .bool false] }], [], 0, 0, 0, [], 0, .i64⟩,
  ⟨0, 1, [.nilFunc], [], 0, 0, 0, [], 0, .i64⟩,
  ⟨0, 1, [.nilFunc], [], 0, 0, 0, [], 0, .i64⟩,
  ⟨0, 1, [.nilFunc], [], 0, 0, 0, [], 0, .i64⟩,
  ⟨0, 1, [.nilFunc], [], 0, 0, 0, [], 0, .i64⟩,
  ⟨0, 1, [.nilFunc], [], 0, 0, 0, [], 0, .i64⟩,
  ⟨0, 1, [.nilFunc], [], 0, 0, 0, [], 0, .i64⟩,
  ⟨0, 1, [.nilFunc], [], 0, 0, 0, [], 0, .i64⟩,
  ⟨0, 1, [.nilFunc], [], 0, 0, 0, [], 0, .i64⟩,
  ⟨0, 1, [.nilFunc], [], 0, 0, 0, [], 0, .i64⟩,
  ⟨0, 1, [.nilFunc], [], 0, 0, 0, [], 0, .i64⟩,
  ⟨0, 1, [.nilFunc], [], 0, 0, 0, [], 0, .i64⟩,
  ⟨0, 1, [.nilFunc], [], 0, 0, 0, [], 0, .i64⟩,
  ⟨0, 1, [.nilFunc], [], 0, 0, 0, [], 0, .i64⟩,
  ⟨0, 1, [.nilFunc], [], 0, 0, 0, [], 0, .i64⟩,
  ⟨0, 1, [.nilFunc], [], 0, 0, 0, [], 0, .i64⟩,
  ⟨0, 1, [.nilFunc], [], 0, 0, 0, [], 0, .i64⟩,
  ⟨0, 1, [.nilFunc], [], 0, 0, 0, [], 0, .i64⟩,
  ⟨4, 5, [.int .i64 0, .int .i64 0, .int .i64 0, .int .i64 0, .string ⟨#[]⟩], [(0, 1), (1, 1), (2, 1), (3, 1), (4, 1)], 0, 0, 0, [], 0, .i64⟩,
  ⟨4, 5, [.int .i64 0, .int .i64 0, .int .i64 0, .int .i64 0, .string ⟨#[]⟩], [(0, 1), (1, 1), (2, 1), (3, 1), (4, 1)], 0, 0, 0, [], 0, .i64⟩,
  ⟨0, 1, [.tuple { toList := [.agg { toList := [.int .i64 0, .int .i64 0, .int .i64 0, .int .i64 0, .string ⟨#[]⟩] }, .bool false] }], [], 0, 0, 0, [], 0, .i64⟩,
  ⟨0, 1, [.nilFunc], [], 0, 0, 0, [], 0, .i64⟩,
  ⟨0, 1, [.nilFunc], [], 0, 0, 0, [], 0, .i64⟩,
  ⟨0, 1, [.nilFunc], [], 0, 0, 0, [], 0, .i64⟩,
  ⟨0, 1, [.nilFunc], [], 0, 0, 0, [], 0, .i64⟩,
  ⟨0, 1, [.nilFunc], [], 0, 0, 0, [], 0, .i64⟩,
  ⟨3, 8, [.int .i64 0, .int .i64 0, .int .i64 0, .int .i64 0, .int .i64 0, .int .i64 0, .int .i64 0, .int .i64 0], [], 3, 1, 8, [], 8, .i64⟩,
  ⟨0, 1, [.nilFunc], [], 0, 0, 0, [], 0, .i64⟩,
  ⟨0, 1, [.nilFunc], [], 0, 0, 0, [], 0, .i64⟩,
  ⟨0, 1, [.nilFunc], [], 0, 0, 0, [], 0, .i64⟩,
  ⟨0, 1, [.nilFunc], [], 0, 0, 0, [], 0, .i64⟩,
  ⟨0, 1, [.nilFunc], [], 0, 0, 0, [], 0, .i64⟩,
  ⟨0, 1, [.nilFunc], [], 0, 0, 0, [], 0, .i64⟩,
  ⟨3, 11, [.nilFunc, .nilFunc, .nilFunc, .nilFunc, .nilFunc, .nilFunc, .nilFunc, .nilFunc, .nilFunc, .nilFunc, .nilFunc], [], 153, 1, 8, [], 11, .i64⟩,
  ⟨0, 1, [.nilFunc], [], 0, 0, 0, [], 0, .i64⟩,
  ⟨0, 1, [.nilFunc], [], 0, 0, 0, [], 0, .i64⟩,
  ⟨0, 1, [.nilFunc], [], 0, 0, 0, [], 0, .i64⟩,
  ⟨0, 1, [.nilFunc], [], 0, 0, 0, [], 0, .i64⟩,
  ⟨0, 1, [.nilFunc], [], 0, 0, 0, [], 0, .i64⟩,
  ⟨0, 1, [.nilFunc], [], 0, 0, 0, [], 0, .i64⟩,
  ⟨0, 1, [.pointer none], [], 0, 0, 0, [], 0, .i64⟩,
  ⟨4, 2, [.string ⟨#[]⟩, .int .i64 0], [(0, 1), (1, 1)], 0, 0, 0, [], 0, .i64⟩,
  ⟨4, 2, [.string ⟨#[]⟩, .int .i64 0], [(0, 1), (1, 1)], 0, 0, 0, [], 0, .i64⟩,
  ⟨3, 3, [.nilFunc, .nilFunc, .nilFunc], [], 171, 1, 8, [], 3, .i64⟩,
  ⟨0, 1, [.nilFunc], [], 0, 0, 0, [], 0, .i64⟩,
  ⟨4, 5, [.string ⟨#[]⟩, .int .i64 0, .nilFunc, .nilFunc, .nilFunc], [(0, 2), (2, 3)], 0, 0, 0, [], 0, .i64⟩,
  ⟨4, 5, [.string ⟨#[]⟩, .int .i64 0, .nilFunc, .nilFunc, .nilFunc], [(0, 2), (2, 3)], 0, 0, 0, [], 0, .i64⟩,
  ⟨0, 1, [.nilFunc], [], 0, 0, 0, [], 0, .i64⟩,
  ⟨0, 1, [.nilFunc], [], 0, 0, 0, [], 0, .i64⟩,
  ⟨4, 5, [.bool false, .slice none 0 0, .bool false, .slice none 0 0, .int .i64 0], [(0, 4), (4, 1)], 0, 0, 0, [], 0, .i64⟩,
  ⟨4, 5, [.bool false, .slice none 0 0, .bool false, .slice none 0 0, .int .i64 0], [(0, 4), (4, 1)], 0, 0, 0, [], 0, .i64⟩,
  ⟨0, 1, [.nilFunc], [], 0, 0, 0, [], 0, .i64⟩,
  ⟨0, 1, [.nilFunc], [], 0, 0, 0, [], 0, .i64⟩,
  ⟨0, 1, [.nilFunc], [], 0, 0, 0, [], 0, .i64⟩,
  ⟨3, 100, [.int .i64 0, .int .i64 0, .int .i64 0, .int .i64 0, .string ⟨#[]⟩, .int .i64 0, .int .i64 0, .int .i64 0, .int .i64 0, .string ⟨#[]⟩, .int .i64 0, .int .i64 0, .int .i64 0, .int .i64 0, .string ⟨#[]⟩, .int .i64 0, .int .i64 0, .int .i64 0, .int .i64 0, .string ⟨#[]⟩, .int .i64 0, .int .i64 0, .int .i64 0, .int .i64 0, .string ⟨#[]⟩, .int .i64 0, .int .i64 0, .int .i64 0, .int .i64 0, .string ⟨#[]⟩, .int .i64 0, .int .i64 0, .int .i64 0, .int .i64 0, .string ⟨#[]⟩, .int .i64 0, .int .i64 0, .int .i64 0, .int .i64 0, .string ⟨#[]⟩, .int .i64 0, .int .i64 0, .int .i64 0, .int .i64 0, .string ⟨#[]⟩, .int .i64 0, .int .i64 0, .int .i64 0, .int .i64 0, .string ⟨#[]⟩, .int .i64 0, .int .i64 0, .int .i64 0, .int .i64 0, .string ⟨#[]⟩, .int .i64 0, .int .i64 0, .int .i64 0, .int .i64 0, .string ⟨#[]⟩, .int .i64 0, .int .i64 0, .int .i64 0, .int .i64 0, .string ⟨#[]⟩, .int .i64 0, .int .i64 0, .int .i64 0, .int .i64 0, .string ⟨#[]⟩, .int .i64 0, .int .i64 0, .int .i64 0, .int .i64 0, .string ⟨#[]⟩, .int .i64 0, .int .i64 0, .int .i64 0, .int .i64 0, .string ⟨#[]⟩, .int .i64 0, .int .i64 0, .int .i64 0, .int .i64 0, .string ⟨#[]⟩, .int .i64 0, .int .i64 0, .int .i64 0, .int .i64 0, .string ⟨#[]⟩, .int .i64 0, .int .i64 0, .int .i64 0, .int .i64 0, .string ⟨#[]⟩, .int .i64 0, .int .i64 0, .int .i64 0, .int .i64 0, .string ⟨#[]⟩], [], 166, 5, 48, [], 20, .i64⟩,
  ⟨0, 1, [.nilFunc], [], 0, 0, 0, [], 0, .i64⟩,
  ⟨0, 1, [.nilFunc], [], 0, 0, 0, [], 0, .i64⟩,
  ⟨0, 1, [.nilFunc], [], 0, 0, 0, [], 0, .i64⟩,
  ⟨0, 1, [.tuple { toList := [.int .i64 0, .bool false] }], [], 0, 0, 0, [], 0, .i64⟩,
  ⟨0, 1, [.nilFunc], [], 0, 0, 0, [], 0, .i64⟩,
  ⟨0, 1, [.nilFunc], [], 0, 0, 0, [], 0, .i64⟩,
  ⟨0, 1, [.nilFunc], [], 0, 0, 0, [], 0, .i64⟩,
  ⟨3, 17, [.bool false, .bool false, .bool false, .bool false, .bool false, .bool false, .bool false, .bool false, .bool false, .bool false, .bool false, .bool false, .bool false, .bool false, .bool false, .bool false, .bool false], [], 4, 1, 1, [], 17, .i64⟩,
  ⟨0, 1, [.pointer none], [], 0, 0, 0, [], 0, .i64⟩,
  ⟨4, 2, [.pointer none, .slice none 0 0], [(0, 1), (1, 1)], 0, 0, 0, [], 0, .i64⟩,
  ⟨4, 2, [.pointer none, .slice none 0 0], [(0, 1), (1, 1)], 0, 0, 0, [], 0, .i64⟩,
  ⟨0, 1, [.nilIface], [], 0, 0, 0, [], 0, .i64⟩,
  ⟨0, 1, [.nilIface], [], 0, 0, 0, [], 0, .i64⟩,
  ⟨0, 1, [.nilFunc], [], 0, 0, 0, [], 0, .i64⟩,
  ⟨0, 1, [.tuple { toList := [.int .i64 0, .nilIface] }], [], 0, 0, 0, [], 0, .i64⟩,
  ⟨0, 1, [.nilFunc], [], 0, 0, 0, [], 0, .i64⟩,
  ⟨0, 1, [.nilFunc], [], 0, 0, 0, [], 0, .i64⟩,
  ⟨0, 1, [.tuple { toList := [.string ⟨#[]⟩, .string ⟨#[]⟩] }], [], 0, 0, 0, [], 0, .i64⟩,
  ⟨0, 1, [.nilFunc], [], 0, 0, 0, [], 0, .i64⟩,
  ⟨0, 1, [.nilFunc], [], 0, 0, 0, [], 0, .i64⟩,
  ⟨0, 1, [.nilFunc], [], 0, 0, 0, [], 0, .i64⟩,
  ⟨0, 1, [.nilFunc], [], 0, 0, 0, [], 0, .i64⟩,
  ⟨0, 1, [.nilFunc], [], 0, 0, 0, [], 0, .i64⟩,
  ⟨4, 2, [.int .u8 0, .int .u8 0], [(0, 1), (1, 1)], 0, 0, 0, [], 0, .i64⟩,
  ⟨4, 2, [.int .u8 0, .int .u8 0], [(0, 1), (1, 1)], 0, 0, 0, [], 0, .i64⟩,
  ⟨0, 1, [.nilFunc], [], 0, 0, 0, [], 0, .i64⟩,
  ⟨0, 1, [.tuple { toList := [.agg { toList := [.bool false, .slice none 0 0] }, .agg { toList := [.bool false, .slice none 0 0] }] }], [], 0, 0, 0, [], 0, .i64⟩,
  ⟨0, 1, [.nilFunc], [], 0, 0, 0, [], 0, .i64⟩,
  ⟨5, 1, [.int .u64 0], [], 0, 0, 0, [], 0, .u64⟩,
  ⟨0, 1, [.nilFunc], [], 0, 0, 0, [], 0, .i64⟩,
  ⟨0, 1, [.nilFunc], [], 0, 0, 0, [], 0, .i64⟩,
  ⟨0, 1, [.nilFunc], [], 0, 0, 0, [], 0, .i64⟩,
  ⟨0, 1, [.tuple { toList := [.string ⟨#[]⟩, .string ⟨#[]⟩, .bool false] }], [], 0, 0, 0, [], 0, .i64⟩,
  ⟨0, 1, [.nilFunc], [], 0, 0, 0, [], 0, .i64⟩,
  ⟨0, 1, [.nilFunc], [], 0, 0, 0, [], 0, .i64⟩,
  ⟨0, 1, [.nilFunc], [], 0, 0, 0, [], 0, .i64⟩,
  ⟨0, 1, [.nilFunc], [], 0, 0, 0, [], 0, .i64⟩,
  ⟨0, 1, [.nilFunc], [], 0, 0, 0, [], 0, .i64⟩,
  ⟨0, 1, [.nilFunc], [], 0, 0, 0, [], 0, .i64⟩,
  ⟨3, 2, [.string ⟨#[]⟩, .string ⟨#[]⟩], [], 9, 1, 16, [], 2, .i64⟩,
  ⟨3, 8, [.string ⟨#[]⟩, .string ⟨#[]⟩, .string ⟨#[]⟩, .string ⟨#[]⟩, .string ⟨#[]⟩, .string ⟨#[]⟩, .string ⟨#[]⟩, .string ⟨#[]⟩], [], 241, 2, 32, [], 4, .i64⟩,
  ⟨3, 2, [.int .i64 0, .int .i64 0], [], 3, 1, 8, [], 2, .i64⟩,
  ⟨3, 8, [.int .i64 0, .int .i64 0, .int .i64 0, .int .i64 0, .int .i64 0, .int .i64 0, .int .i64 0, .int .i64 0], [], 243, 2, 16, [], 4, .i64⟩,
  ⟨0, 1, [.pointer none], [], 0, 0, 0, [], 0, .i64⟩,
  ⟨0, 1, [.nilFunc], [], 0, 0, 0, [], 0, .i64⟩,
  ⟨0, 1, [.nilFunc], [], 0, 0, 0, [], 0, .i64⟩,
  ⟨0, 1, [.nilFunc], [], 0, 0, 0, [], 0, .i64⟩,
  ⟨0, 1, [.nilFunc], [], 0, 0, 0, [], 0, .i64⟩,
  ⟨0, 1, [.nilFunc], [], 0, 0, 0, [], 0, .i64⟩,
  ⟨0, 1, [.nilFunc], [], 0, 0, 0, [], 0, .i64⟩,
  ⟨0, 1, [.nilFunc], [], 0, 0, 0, [], 0, .i64⟩,
  ⟨0, 1, [.tuple { toList := [.slice none 0 0, .slice none 0 0] }], [], 0, 0, 0, [], 0, .i64⟩,
  ⟨0, 1, [.nilFunc], [], 0, 0, 0, [], 0, .i64⟩,
  ⟨0, 1, [.nilFunc], [], 0, 0, 0, [], 0, .i64⟩,
  ⟨0, 1, [.nilFunc], [], 0, 0, 0, [], 0, .i64⟩,
  ⟨0, 1, [.nilFunc], [], 0, 0, 0, [], 0, .i64⟩,
  ⟨3, 24, [.int .u8 0, .int .u8 0, .int .u8 0, .int .u8 0, .int .u8 0, .int .u8 0, .int .u8 0, .int .u8 0, .int .u8 0, .int .u8 0, .int .u8 0, .int .u8 0, .int .u8 0, .int .u8 0, .int .u8 0, .int .u8 0, .int .u8 0, .int .u8 0, .int .u8 0, .int .u8 0, .int .u8 0, .int .u8 0, .int .u8 0, .int .u8 0], [], 5, 1, 1, [], 24, .i64⟩,
  ⟨0, 1, [.nilFunc], [], 0, 0, 0, [], 0, .i64⟩,
  ⟨0, 1, [.nilFunc], [], 0, 0, 0, [], 0, .i64⟩,
  ⟨0, 1, [.tuple { toList := [.slice none 0 0, .string ⟨#[]⟩] }], [], 0, 0, 0, [], 0, .i64⟩,
  ⟨0, 1, [.nilFunc], [], 0, 0, 0, [], 0, .i64⟩,
  ⟨3, 6, [.int .i64 0, .int .i64 0, .int .i64 0, .int .i64 0, .int .i64 0, .int .i64 0], [], 3, 1, 8, [], 6, .i64⟩,
  ⟨0, 1, [.pointer none], [], 0, 0, 0, [], 0, .i64⟩,
  ⟨0, 1, [.nilFunc], [], 0, 0, 0, [], 0, .i64⟩,
  ⟨0, 1, [.tuple { toList := [.int .i64 0, .int .i64 0, .bool false] }], [], 0, 0, 0, [], 0, .i64⟩,
  ⟨0, 1, [.nilFunc], [], 0, 0, 0, [], 0, .i64⟩,
  ⟨0, 1, [.tuple { toList := [.slice none 0 0, .slice none 0 0] }], [], 0, 0, 0, [], 0, .i64⟩,
  ⟨0, 1, [.nilFunc], [], 0, 0, 0, [], 0, .i64⟩,
  ⟨0, 1, [.nilFunc], [], 0, 0, 0, [], 0, .i64⟩,
  ⟨0, 1, [.nilFunc], [], 0, 0, 0, [], 0, .i64⟩,
  ⟨0, 1, [.nilFunc], [], 0, 0, 0, [], 0, .i64⟩,
  ⟨0, 1, [.tuple { toList := [.slice none 0 0, .int .u32 0] }], [], 0, 0, 0, [], 0, .i64⟩,
  ⟨0, 1, [.nilFunc], [], 0, 0, 0, [], 0, .i64⟩,
  ⟨0, 1, [.nilFunc], [], 0, 0, 0, [], 0, .i64⟩,
  ⟨0, 1, [.nilFunc], [], 0, 0, 0, [], 0, .i64⟩,
  ⟨0, 1, [.nilFunc], [], 0, 0, 0, [], 0, .i64⟩,
  ⟨0, 1, [.nilFunc], [], 0, 0, 0, [], 0, .i64⟩,
  ⟨0, 1, [.nilFunc], [], 0, 0, 0, [], 0, .i64⟩,
  ⟨0, 1, [.nilFunc], [], 0, 0, 0, [], 0, .i64⟩,
  ⟨0, 1, [.nilFunc], [], 0, 0, 0, [], 0, .i64⟩,
  ⟨0, 1, [.tuple { toList := [.int .u64 0, .nilIface] }], [], 0, 0, 0, [], 0, .i64⟩,
  ⟨0, 1, [.nilFunc], [], 0, 0, 0, [], 0, .i64⟩,
  ⟨0, 1, [.nilFunc], [], 0, 0, 0, [], 0, .i64⟩,
  ⟨3, 20, [.int .u64 0, .int .u64 0, .int .u64 0, .int .u64 0, .int .u64 0, .int .u64 0, .int .u64 0, .int .u64 0, .int .u64 0, .int .u64 0, .int .u64 0, .int .u64 0, .int .u64 0, .int .u64 0, .int .u64 0, .int .u64 0, .int .u64 0, .int .u64 0, .int .u64 0, .int .u64 0], [], 230, 1, 8, [], 20, .i64⟩,
  ⟨3, 65, [.int .u8 0, .int .u8 0, .int .u8 0, .int .u8 0, .int .u8 0, .int .u8 0, .int .u8 0, .int .u8 0, .int .u8 0, .int .u8 0, .int .u8 0, .int .u8 0, .int .u8 0, .int .u8 0, .int .u8 0, .int .u8 0, .int .u8 0, .int .u8 0, .int .u8 0, .int .u8 0, .int .u8 0, .int .u8 0, .int .u8 0, .int .u8 0, .int .u8 0, .int .u8 0, .int .u8 0, .int .u8 0, .int .u8 0, .int .u8 0, .int .u8 0, .int .u8 0, .int .u8 0, .int .u8 0, .int .u8 0, .int .u8 0, .int .u8 0, .int .u8 0, .int .u8 0, .int .u8 0, .int .u8 0, .int .u8 0, .int .u8 0, .int .u8 0, .int .u8 0, .int .u8 0, .int .u8 0, .int .u8 0, .int .u8 0, .int .u8 0, .int .u8 0, .int .u8 0, .int .u8 0, .int .u8 0, .int .u8 0, .int .u8 0, .int .u8 0, .int .u8 0, .int .u8 0, .int .u8 0, .int .u8 0, .int .u8 0, .int .u8 0, .int .u8 0, .int .u8 0], [], 5, 1, 1, [], 65, .i64⟩,
  ⟨5, 1, [.int .u64 0], [], 0, 0, 0, [], 0, .u64⟩,
  ⟨0, 1, [.nilFunc], [], 0, 0, 0, [], 0, .i64⟩,
  ⟨0, 1, [.nilFunc], [], 0, 0, 0, [], 0, .i64⟩,
  ⟨0, 1, [.nilFunc], [], 0, 0, 0, [], 0, .i64⟩,
  ⟨0, 1, [.nilFunc], [], 0, 0, 0, [], 0, .i64⟩,
  ⟨0, 1, [.nilFunc], [], 0, 0, 0, [], 0, .i64⟩,
  ⟨5, 1, [.int .i64 0], [], 0, 0, 0, [], 0, .i64⟩,
  ⟨0, 1, [.tuple { toList := [.int .i64 0, .nilIface] }], [], 0, 0, 0, [], 0, .i64⟩,
  ⟨0, 1, [.nilFunc], [], 0, 0, 0, [], 0, .i64⟩,
  ⟨0, 1, [.pointer none], [], 0, 0, 0, [], 0, .i64⟩,
  ⟨0, 1, [.nilFunc], [], 0, 0, 0, [], 0, .i64⟩,
  ⟨0, 1, [.nilFunc], [], 0, 0, 0, [], 0, .i64⟩,
  ⟨0, 1, [.tuple { toList := [.int .u32 0, .int .u32 0] }], [], 0, 0, 0, [], 0, .i64⟩,
  ⟨0, 1, [.nilFunc], [], 0, 0, 0, [], 0, .i64⟩,
  ⟨0, 1, [.nilFunc], [], 0, 0, 0, [], 0, .i64⟩,
  ⟨3, 32, [.int .u8 0, .int .u8 0, .int .u8 0, .int .u8 0, .int .u8 0, .int .u8 0, .int .u8 0, .int .u8 0, .int .u8 0, .int .u8 0, .int .u8 0, .int .u8 0, .int .u8 0, .int .u8 0, .int .u8 0, .int .u8 0, .int .u8 0, .int .u8 0, .int .u8 0, .int .u8 0, .int .u8 0, .int .u8 0, .int .u8 0, .int .u8 0, .int .u8 0, .int .u8 0, .int .u8 0, .int .u8 0, .int .u8 0, .int .u8 0, .int .u8 0, .int .u8 0], [], 5, 1, 1, [], 32, .i64⟩,
  ⟨3, 64, [.int .u8 0, .int .u8 0, .int .u8 0, .int .u8 0, .int .u8 0, .int .u8 0, .int .u8 0, .int .u8 0, .int .u8 0, .int .u8 0, .int .u8 0, .int .u8 0, .int .u8 0, .int .u8 0, .int .u8 0, .int .u8 0, .int .u8 0, .int .u8 0, .int .u8 0, .int .u8 0, .int .u8 0, .int .u8 0, .int .u8 0, .int .u8 0, .int .u8 0, .int .u8 0, .int .u8 0, .int .u8 0, .int .u8 0, .int .u8 0, .int .u8 0, .int .u8 0, .int .u8 0, .int .u8 0, .int .u8 0, .int .u8 0, .int .u8 0, .int .u8 0, .int .u8 0, .int .u8 0, .int .u8 0, .int .u8 0, .int .u8 0, .int .u8 0, .int .u8 0, .int .u8 0, .int .u8 0, .int .u8 0, .int .u8 0, .int .u8 0, .int .u8 0, .int .u8 0, .int .u8 0, .int .u8 0, .int .u8 0, .int .u8 0, .int .u8 0, .int .u8 0, .int .u8 0, .int .u8 0, .int .u8 0, .int .u8 0, .int .u8 0, .int .u8 0], [], 5, 1, 1, [], 64, .i64⟩,
  ⟨4, 3, [.string ⟨#[]⟩, .string ⟨#[]⟩, .nilIface], [(0, 1), (1, 1), (2, 1)], 0, 0, 0, [], 0, .i64⟩,
  ⟨4, 3, [.string ⟨#[]⟩, .string ⟨#[]⟩, .nilIface], [(0, 1), (1, 1), (2, 1)], 0, 0, 0, [], 0, .i64⟩,
  ⟨0, 1, [.nilFunc], [], 0, 0, 0, [], 0, .i64⟩,
  ⟨0, 1, [.pointer none], [], 0, 0, 0, [], 0, .i64⟩,
  ⟨4, 1, [.string ⟨#[]⟩], [(0, 1)], 0, 0, 0, [], 0, .i64⟩,
  ⟨4, 1, [.string ⟨#[]⟩], [(0, 1)], 0, 0, 0, [], 0, .i64⟩,
  ⟨4, 4, [.pointer none, .pointer none, .pointer none, .string ⟨#[]⟩], [(0, 1), (1, 1), (2, 1), (3, 1)], 0, 0, 0, [], 0, .i64⟩,
  ⟨4, 4, [.pointer none, .pointer none, .pointer none, .string ⟨#[]⟩], [(0, 1), (1, 1), (2, 1), (3, 1)], 0, 0, 0, [], 0, .i64⟩,
  ⟨3, 0, [], [], 16, 1, 8, [], 0, .i64⟩,
  ⟨4, 0, [], [(0, 0)], 0, 0, 0, [], 0, .i64⟩,
  ⟨4, 0, [], [(0, 0)], 0, 0, 0, [], 0, .i64⟩,
  ⟨5, 1, [.int .u8 0], [], 0, 0, 0, [], 0, .u8⟩,
  ⟨5, 1, [.int .u8 0], [], 0, 0, 0, [], 0, .u8⟩,
  ⟨0, 1, [.nilFunc], [], 0, 0, 0, [], 0, .i64⟩,
  ⟨5, 1, [.int .i32 0], [], 0, 0, 0, [], 0, .i32⟩,
  ⟨5, 1, [.int .i32 0], [], 0, 0, 0, [], 0, .i32⟩,
  ⟨4, 11, [.int .u64 0, .int .u64 0, .int .u32 0, .int .u8 0, .int .u8 0, .int .u8 0, .int .u8 0, .nilFunc, .pointer none, .int .i32 0, .int .i32 0], [(0, 1), (1, 1), (2, 1), (3, 1), (4, 1), (5, 1), (6, 1), (7, 1), (8, 1), (9, 1), (10, 1)], 0, 0, 0, [], 0, .i64⟩,
  ⟨4, 11, [.int .u64 0, .int .u64 0, .int .u32 0, .int .u8 0, .int .u8 0, .int .u8 0, .int .u8 0, .nilFunc, .pointer none, .int .i32 0, .int .i32 0], [(0, 1), (1, 1), (2, 1), (3, 1), (4, 1), (5, 1), (6, 1), (7, 1), (8, 1), (9, 1), (10, 1)], 0, 0, 0, [], 0, .i64⟩]
def tyi (t : Nat) : TyI := tyTab.getD t tyNone
def tyOks : Nat → Bool := fun t => decide (t < 322)
set_option maxRecDepth 100000 in
theorem tyAll : (List.range 322).map (fun t => bif tyOks t then TyI.of Tryz.prog t else none) = (List.range 322).map (fun t => bif tyOks t then some (tyi t) else none) := by kernel_rfl
theorem tyok (t : Nat) (h : tyOks t = true) : TyI.of Tryz.prog t = some (tyi t) := by
  have hlt : t < 322 := by
    simp only [tyOks, Bool.and_eq_true, decide_eq_true_eq] at h
    omega
  have h1 := congrArg (fun l => l[t]?) tyAll
  simp only [List.getElem?_map, List.getElem?_range hlt, Option.map_some, h, cond_true, Option.some.injEq] at h1
  exact h1
end Go.Proofs.YtiledamgmppcmaaGreatDoor
/-! PlR -/
namespace Go.Proofs.YtiledamgmppcmaaGreatDoor
open Go.RowKit

section
variable {N : Nat} {ops : Array Oper} {rest : List Oper} {o : Oper} {F : Nat → PV} {S S' : PS} {q : WRes → Prop} {C : Prop} {r : PV} {Q : Exit → (Nat → PV) → PS → Prop}

/-- An operation, in the text's order. -/
theorem wst (hg : guardP ops F o = some true) (h : stepA tyi tyOks F S o.op = some (C, r, S')) (hC : C) (k : WK Tryz.prog N ops rest (putP N o.dst r F) S' q) : WK Tryz.prog N ops (o :: rest) F S q :=
  wk_op hg (stepA_ok tyok h hC) k
/-- .. whose value or state is laid plain first. -/
theorem wstB {r' : PV} {S'' : PS} (hg : guardP ops F o = some true) (h : stepB tyi tyOks F S o.op = some (C, r, S')) (hr : r = r') (hS : S' = S'') (hC : C) (k : WK Tryz.prog N ops rest (putP N o.dst r' F) S'' q) : WK Tryz.prog N ops (o :: rest) F S q := by
  subst hr; subst hS
  exact wk_op hg (stepB_ok tyok h hC) k
/-- An element of a slice. -/
theorem wix {t : TypeId} {x y : Operand} {l : List (List DV)} {kd : IntKind} {j : Int} (e : List DV) (hg : guardP ops F o = some true) (ho : o.op = .indexAddr t x y) (hk : (tyOks t && Nat.beq (tyi t).kind 2) = true) (hx : S.toS (tyi t).ek (evP F x) = some l) (hy : evP F y = .d (.v (.int kd j)))
    (he : l[j.toNat]? = some e) (h0 : 0 ≤ j) (k : WK Tryz.prog N ops rest (putP N o.dst (.ep e) F) S q) : WK Tryz.prog N ops (o :: rest) F S q := by
  simp only [Bool.and_eq_true] at hk
  exact wk_op hg (ops_indexS ho (tyok t hk.1) (Nat.eq_of_beq_eq_true hk.2) hx hy h0 he) k
end

/-- Entered by a call, and what it does. -/
abbrev Does (f : Nat) (args : List PV) (S : PS) (out : POut) (S' : PS) : Prop := Ent Tryz.prog f ∧ EvC Tryz.prog f args S out S'
theorem does_body {f : Nat} {fn : Func} {c : Code} {args : List PV} {S : PS} {out : POut} {S' : PS} (hf : Tryz.prog.funcs[f]? = some fn) (hname : (fn.name == "runtime.NumGoroutine") = false) (hb : fn.body = some c) (hn : args.length ≤ fn.ntmps) (hS : S'.boxes.length = S.boxes.length) (hT : S.toks.length ≤ S'.toks.length)
    (h : PW Tryz.prog fn.ntmps c (bodyQ Tryz.prog fn out S') (args0 args) S) : Does f args S out S' :=
  ⟨enters_of hf hname hb, ev_body hf hb hn hS hT h⟩

theorem frle_nil {F : Nat → PV} : FrLe [] F := fun _ h => by cases h
theorem frle_cons {F : Nat → PV} {t : Nat} {p : PV} {L : List (Nat × PV)} (h : F t = p) (h' : FrLe L F) : FrLe ((t, p) :: L) F := fun q hq => by
  rcases List.mem_cons.1 hq with rfl | hq
  · exact h
  · exact h' q hq

/-- What a result slot holds. -/
def resP (F : Nat → PV) (S : PS) : ResultVar → Option PV
  | .tmp t => match stId S (F t) with
    | some (_, p, _) => some p
    | none => none
  | .cell x T => bif tyOks T then
      match F x with
      | .ptr id off => match S.boxes[id]? with
        | some c => bif (tyi T).isRow then (bif Nat.ble (off + (tyi T).size) c.length then some (.agg ((c.drop off).take (tyi T).size)) else none) else c[off]?
        | none => none
      | _ => none
    else none
def resPs (F : Nat → PV) (S : PS) : List ResultVar → Option (List PV)
  | [] => some []
  | r :: rs => match resP F S r with
    | some p => match resPs F S rs with
      | some ps => some (p :: ps)
      | none => none
    | none => none
theorem resP_ok {F : Nat → PV} {S : PS} {r : ResultVar} {p : PV} (h : resP F S r = some p) : ResOk Tryz.prog F S r p := by
  cases r with
  | tmp t =>
    simp only [resP] at h
    simp only [ResOk]
    cases e : F t <;> rw [e] at h <;> simp only [stId, Option.some.injEq] at h <;> exact h
  | cell x T =>
    simp only [resP] at h
    simp only [ResOk]
    cases hk : tyOks T with
    | false => rw [hk] at h; cases h
    | true =>
      rw [hk] at h
      simp only [cond_true] at h
      split at h
      · rename_i id off hx
        split at h
        · rename_i c hc
          refine ⟨id, off, c, tyi T, hx, hc, tyok T hk, ?_⟩
          cases hr : (tyi T).isRow with
          | true =>
            rw [hr] at h
            simp only [cond_true] at h
            cases hle : Nat.ble (off + (tyi T).size) c.length with
            | false => rw [hle] at h; cases h
            | true => rw [hle] at h; cases h; exact .inl ⟨rfl, by simpa using hle, rfl⟩
          | false => rw [hr] at h; exact .inr ⟨rfl, h⟩
        · cases h
      · cases h
theorem resPs_ok {F : Nat → PV} {S : PS} : ∀ {rs : List ResultVar} {ps : List PV}, resPs F S rs = some ps → ResOks Tryz.prog F S rs ps
  | [], ps, h => by simp only [resPs] at h; cases h; rfl
  | r :: rs, ps, h => by
    simp only [resPs] at h
    split at h
    · rename_i p hp
      split at h
      · rename_i ps' hps; cases h; exact ⟨p, ps', rfl, resP_ok hp, resPs_ok hps⟩
      · cases h
    · cases h
/-- A body's end. -/
theorem fin {fn : Func} {F : Nat → PV} {S S' : PS} {e : Exit} {ps : List PV} {r r' : PV} (hall : (S.boxes.take S'.boxes.length).all (fun c => PV.ltL S'.boxes.length S'.toks.length c) = true) (hcut : S.cut S'.boxes.length S'.toks.length = S') (he : e = .normal ∨ e = .ret)
    (hps : resPs F S fn.results.toList = some ps) (hv : resV ps = r') (hr : r' = r) (hlt : r.lt S'.boxes.length S'.toks.length = true) : bodyQ Tryz.prog fn (.ret r) S' e F S :=
  ⟨hall, hcut, he, ps, resPs_ok hps, hv.trans hr, hlt⟩
end Go.Proofs.YtiledamgmppcmaaGreatDoor
/-! PlS -/
namespace Go.Proofs.YtiledamgmppcmaaGreatDoor
open Go.RowKit

def NL (l l' : List PV) : Prop := l = l'
theorem nl_nil {l : List PV} (h : l = []) : NL l [] := h
theorem nl_d {l r r' : List PV} {c : DV} (h : l = .d c :: r) (k : NL r r') : NL l (.d c :: r') := by cases k; exact h
theorem nl_p {l r r' : List PV} {id off : Nat} (h : l = .ptr id off :: r) (k : NL r r') : NL l (.ptr id off :: r') := by cases k; exact h
theorem nl_x {l r r' : List PV} {a : PV} (h : l = a :: r) (k : NL r r') : NL l (a :: r') := by cases k; exact h
def NB (l l' : List (List PV)) : Prop := l = l'
theorem nb_nil {l : List (List PV)} (h : l = []) : NB l [] := h
theorem nb_cons {l r r' : List (List PV)} {c c' : List PV} (h : l = c :: r) (k1 : NL c c') (k : NB r r') : NB l (c' :: r') := by cases k1; cases k; exact h
def NT (l l' : List RTok) : Prop := l = l'
theorem nt_nil {l : List RTok} (h : l = []) : NT l [] := h
theorem nt_cons {l r r' : List RTok} {T : RTok} (h : l = T :: r) (k : NT r r') : NT l (T :: r') := by cases k; exact h
theorem ns_of {S : PS} {bs bs' : List (List PV)} {ts ts' : List RTok} (h : S = ⟨bs, ts⟩) (k : NB bs bs') (k' : NT ts ts') : S = ⟨bs', ts'⟩ := by cases k; cases k'; exact h
theorem nr_agg {r : PV} {l l' : List PV} (h : r = .agg l) (k : NL l l') : r = .agg l' := by cases k; exact h
theorem nr_tup {r : PV} {l l' : List PV} (h : r = .tup l) (k : NL l l') : r = .tup l' := by cases k; exact h
theorem nr_d {r : PV} {c : DV} (h : r = .d c) : r = .d c := h
mutual
/-- Slices are no longer than a length can say. -/
def fitP : PV → Prop
  | .d (.sl _ l) => l.length ≤ 9223372036854775807
  | .agg l => fitL l
  | _ => True
def fitL : List PV → Prop
  | [] => True
  | p :: r => fitP p ∧ fitL r
end
mutual
theorem rep_fit {K : Kx} {w : World} : ∀ (p : PV) (u : Value), Rep K w p u → fitP p
  | .d (.sl k l), u, h => by
    simp only [Rep, RepD] at h
    obtain ⟨_, cap, _, h1, h2, _⟩ := h
    exact Nat.le_trans h1 h2
  | .agg l, u, h => by
    simp only [Rep] at h
    obtain ⟨cs, _, h⟩ := h
    exact repL_fit l cs h
  | .d (.v _), _, _ => trivial
  | .any, _, _ => trivial
  | .un, _, _ => trivial
  | .tup _, _, _ => trivial
  | .ptr _ _, _, _ => trivial
  | .ep _, _, _ => trivial
  | .hd _ _, _, _ => trivial
  | .bsl _ _ _ _ _, _, _ => trivial
  | .fn _ _, _, _ => trivial
theorem repL_fit {K : Kx} {w : World} : ∀ (l : List PV) (us : List Value), RepL K w l us → fitL l
  | [], _, _ => trivial
  | p :: r, us, h => by
    simp only [RepL] at h
    obtain ⟨u, us', _, h1, h2⟩ := h
    exact ⟨rep_fit p u h1, repL_fit r us' h2⟩
end
theorem does_bodyf {f : Nat} {fn : Func} {c : Code} {args : List PV} {S : PS} {out : POut} {S' : PS} (hf : Tryz.prog.funcs[f]? = some fn) (hname : (fn.name == "runtime.NumGoroutine") = false) (hb : fn.body = some c) (hn : args.length ≤ fn.ntmps) (hS : S'.boxes.length = S.boxes.length) (hT : S.toks.length ≤ S'.toks.length)
    (h : fitL args → PW Tryz.prog fn.ntmps c (bodyQ Tryz.prog fn out S') (args0 args) S) : Does f args S out S' :=
  ⟨enters_of hf hname hb, fun K w vs hI hA => ev_body hf hb hn hS hT (h (repL_fit _ _ hA)) K w vs hI hA⟩

/-- A truth that is to be asked for. -/
structure Und (b : Bool) : Prop where
  ok : b = b
theorem und_any (b : Bool) : Und b := ⟨rfl⟩
/-- One slot, said anew. -/
def setS (d : Nat) (v : PV) (F : Nat → PV) : Nat → PV := fun t => bif Nat.beq t d then v else F t
theorem setS_same {d : Nat} {v : PV} {F : Nat → PV} (h : F d = v) : setS d v F = F := by
  funext t
  unfold setS
  cases e : Nat.beq t d with
  | false => rfl
  | true => rw [Nat.eq_of_beq_eq_true e]; exact h.symm

mutual
theorem lt_mono {n m n' m' : Nat} (hn : n ≤ n') (hm : m ≤ m') : ∀ p : PV, p.lt n m = true → p.lt n' m' = true
  | .ptr id _, h => by simp only [PV.lt, Nat.blt_eq] at h ⊢; omega
  | .bsl _ id _ _ _, h => by simp only [PV.lt, Nat.blt_eq] at h ⊢; omega
  | .hd t _, h => by simp only [PV.lt, Nat.blt_eq] at h ⊢; omega
  | .agg l, h => by simp only [PV.lt] at h ⊢; exact ltL_mono hn hm l h
  | .tup l, h => by simp only [PV.lt] at h ⊢; exact ltL_mono hn hm l h
  | .fn _ l, h => by simp only [PV.lt] at h ⊢; exact ltL_mono hn hm l h
  | .any, _ => rfl
  | .un, _ => rfl
  | .d _, _ => rfl
  | .ep _, _ => rfl
theorem ltL_mono {n m n' m' : Nat} (hn : n ≤ n') (hm : m ≤ m') : ∀ l : List PV, PV.ltL n m l = true → PV.ltL n' m' l = true
  | [], _ => rfl
  | p :: r, h => by
    simp only [PV.ltL, Bool.and_eq_true] at h ⊢
    exact ⟨lt_mono hn hm p h.1, ltL_mono hn hm r h.2⟩
end

section
variable {N : Nat} {ops : Array Oper} {rest : List Oper} {o : Oper} {F : Nat → PV} {S S' : PS} {q : WRes → Prop} {C : Prop} {r : PV} {Q : Exit → (Nat → PV) → PS → Prop}

/-- A guard whose truth is not known yet: both ways. -/
theorem wk_ask {j : Nat} {want b : Bool} {d : Nat} (ho : o.guard = some (j, want)) (hd : (ops[j]?).bind (·.dst) = some d) (hF : F d = .d (.v (.bool b))) (_ : Und b) (h1 : b = true → WK Tryz.prog N ops (o :: rest) (setS d (.d (.v (.bool true))) F) S q)
    (h0 : b = false → WK Tryz.prog N ops (o :: rest) (setS d (.d (.v (.bool false))) F) S q) : WK Tryz.prog N ops (o :: rest) F S q := by
  cases b with
  | true => have h := h1 rfl; rwa [setS_same hF] at h
  | false => have h := h0 rfl; rwa [setS_same hF] at h
theorem pw_cond_t {c : Operand} {x y : Code} (hc : evP F c = .d (.v (.bool true))) (hx : PW Tryz.prog N x Q F S) : PW Tryz.prog N (.cond c x y) Q F S := pw_cond hc (fun _ => hx) (fun h => by cases h)
theorem pw_cond_f {c : Operand} {x y : Code} (hc : evP F c = .d (.v (.bool false))) (hy : PW Tryz.prog N y Q F S) : PW Tryz.prog N (.cond c x y) Q F S := pw_cond hc (fun h => by cases h) (fun _ => hy)
/-- Both ways; the slot that was asked is known from there on. -/
theorem pw_split {d : Nat} {x y : Code} {b : Bool} (hF : F d = .d (.v (.bool b))) (hx : b = true → PW Tryz.prog N x Q (setS d (.d (.v (.bool true))) F) S) (hy : b = false → PW Tryz.prog N y Q (setS d (.d (.v (.bool false))) F) S) : PW Tryz.prog N (.cond (.tmp d) x y) Q F S := by
  cases b with
  | true => have h := hx rfl; rw [setS_same hF] at h; exact pw_cond_t hF h
  | false => have h := hy rfl; rw [setS_same hF] at h; exact pw_cond_f hF h
theorem pw_mid {x y : Code} {ι : Type} {Q' : Exit → (Nat → PV) → PS → Prop} (ok : ι → Prop) (L : ι → List (Nat × PV)) (Sx : ι → PS) (hx : PW Tryz.prog N x (thenQ (fun F' S' => ∃ i, ok i ∧ FrLe (L i) F' ∧ S' = Sx i) Q) F S) (hy : ∀ i, ok i → PW Tryz.prog N y Q' (fr (L i)) (Sx i)) :
    PW Tryz.prog N x (thenQ (PW Tryz.prog N y Q') Q) F S := by
  refine hx.mono fun e F' S' h => ?_
  cases e with
  | normal =>
    obtain ⟨i, h1, h2, rfl⟩ := h
    exact pw_norm (L i) h2 (hy i h1)
  | ret => exact h
  | exit id => exact h
  | goto l => exact h
  | panic c => exact h
  | outgrown => exact h
variable {ch : Nat → Bool} {U Ut : List Nat} {k : Nat} {bm : Bool} {D : List Nat}
theorem wa_ask {j : Nat} {want b : Bool} {d : Nat} (ho : o.guard = some (j, want)) (hd : (ops[j]?).bind (·.dst) = some d) (hF : F d = .d (.v (.bool b))) (_ : Und b) (h1 : b = true → WA Tryz.prog N ops ch U Ut k (o :: rest) (setS d (.d (.v (.bool true))) F) S bm D q)
    (h0 : b = false → WA Tryz.prog N ops ch U Ut k (o :: rest) (setS d (.d (.v (.bool false))) F) S bm D q) : WA Tryz.prog N ops ch U Ut k (o :: rest) F S bm D q := by
  cases b with
  | true => have h := h1 rfl; rwa [setS_same hF] at h
  | false => have h := h0 rfl; rwa [setS_same hF] at h
/-- An operation that is ordered against all that turn the state. -/
theorem wap (hg : guardP ops F o = some true) (hp : (!ch k && pinB ops ch k) = true) (h : stepA tyi tyOks F S o.op = some (C, r, S)) (hC : C) (kk : WA Tryz.prog N ops ch U Ut (k + 1) rest (putP N o.dst r F) S bm D q) : WA Tryz.prog N ops ch U Ut k (o :: rest) F S bm D q := by
  simp only [Bool.and_eq_true, Bool.not_eq_true'] at hp
  exact wa_pin hg hp.1 hp.2 (stepA_ok tyok h hC) kk
theorem wapB {r' : PV} (hg : guardP ops F o = some true) (hp : (!ch k && pinB ops ch k) = true) (h : stepB tyi tyOks F S o.op = some (C, r, S)) (hr : r = r') (hC : C) (kk : WA Tryz.prog N ops ch U Ut (k + 1) rest (putP N o.dst r' F) S bm D q) : WA Tryz.prog N ops ch U Ut k (o :: rest) F S bm D q := by
  subst hr
  simp only [Bool.and_eq_true, Bool.not_eq_true'] at hp
  exact wa_pin hg hp.1 hp.2 (stepB_ok tyok h hC) kk
/-- An operation that does not look at what is turned. -/
theorem waf (hg : guardP ops F o = some true) (hc : ch k = false) (h : ∀ S', Agree U Ut S S' → stepA tyi tyOks F S' o.op = some (C, r, S')) (hC : C) (kk : WA Tryz.prog N ops ch U Ut (k + 1) rest (putP N o.dst r F) S bm D q) : WA Tryz.prog N ops ch U Ut k (o :: rest) F S bm D q :=
  wa_free hg hc (fun S' ha => stepA_ok tyok (h S' ha) hC) kk
theorem wafB {r' : PV} (hg : guardP ops F o = some true) (hc : ch k = false) (h : ∀ S', Agree U Ut S S' → stepB tyi tyOks F S' o.op = some (C, r, S')) (hr : r = r') (hC : C) (kk : WA Tryz.prog N ops ch U Ut (k + 1) rest (putP N o.dst r' F) S bm D q) : WA Tryz.prog N ops ch U Ut k (o :: rest) F S bm D q := by
  subst hr
  exact wa_free hg hc (fun S' ha => stepB_ok tyok (h S' ha) hC) kk
/-- An operation that turns the state. -/
theorem wac {S'' : PS} {r' : PV} (hg : guardP ops F o = some true) (hc : ch k = true) (h : stepB tyi tyOks F S o.op = some (C, r, S')) (hr : r = r') (hS : S' = S'') (hC : C) (ha : Agree U Ut S S'') (kk : WA Tryz.prog N ops ch U Ut (k + 1) rest (putP N o.dst r' F) S'' false D q) : WA Tryz.prog N ops ch U Ut k (o :: rest) F S false D q := by
  subst hr; subst hS
  exact wa_chain hg hc (stepB_ok tyok h hC) ha kk
def chN : Nat → Bool := fun _ => false
theorem pinB_N {ops : Array Oper} {k : Nat} : pinB ops chN k = true := by
  unfold pinB
  split
  · simp [chN]
  · rfl
theorem wan (hg : guardP ops F o = some true) (h : stepA tyi tyOks F S o.op = some (C, r, S)) (hC : C) (kk : WA Tryz.prog N ops chN U Ut (k + 1) rest (putP N o.dst r F) S bm D q) : WA Tryz.prog N ops chN U Ut k (o :: rest) F S bm D q :=
  wa_pin hg rfl pinB_N (stepA_ok tyok h hC) kk
theorem wanB {r' : PV} (hg : guardP ops F o = some true) (h : stepB tyi tyOks F S o.op = some (C, r, S)) (hr : r = r') (hC : C) (kk : WA Tryz.prog N ops chN U Ut (k + 1) rest (putP N o.dst r' F) S bm D q) : WA Tryz.prog N ops chN U Ut k (o :: rest) F S bm D q := by
  subst hr
  exact wa_pin hg rfl pinB_N (stepB_ok tyok h hC) kk
theorem wixn {t : TypeId} {x y : Operand} {l : List (List DV)} {kd : IntKind} {j : Int} (e : List DV) (hg : guardP ops F o = some true) (ho : o.op = .indexAddr t x y) (hk : (tyOks t && Nat.beq (tyi t).kind 2) = true) (hx : S.toS (tyi t).ek (evP F x) = some l) (hy : evP F y = .d (.v (.int kd j)))
    (he : l[j.toNat]? = some e) (h0 : 0 ≤ j) (kk : WA Tryz.prog N ops chN U Ut (k + 1) rest (putP N o.dst (.ep e) F) S bm D q) : WA Tryz.prog N ops chN U Ut k (o :: rest) F S bm D q := by
  simp only [Bool.and_eq_true] at hk
  exact wa_pin hg rfl pinB_N (ops_indexS ho (tyok t hk.1) (Nat.eq_of_beq_eq_true hk.2) hx hy h0 he) kk
theorem wcn {c : Operand} {al : Array Operand} {ats : Array TypeId} {f : Nat} {caps args : List PV} (hD : Does f args ⟨[], []⟩ (.ret r) ⟨[], []⟩) (hg : guardP ops F o = some true) (ho : o.op = .call { callee := .value c, args := al, argTypes := ats }) (hc : evP F c = .fn f caps)
    (hlt : PV.ltL 0 0 args = true) (hlr : r.lt 0 0 = true) (ha : CoeL S (al.toList.map (evP F) ++ caps) args) (kk : WA Tryz.prog N ops chN U Ut (k + 1) rest (putP N o.dst r F) S bm D q) : WA Tryz.prog N ops chN U Ut k (o :: rest) F S bm D q := by
  have h := ops_pure ho hD.1 hc hlt ha hD.2
  rw [ren_id r hlr] at h
  exact wa_pin hg rfl pinB_N h kk
theorem agree_nil {S S' : PS} : Agree [] [] S S' := ⟨by simp, by simp⟩
theorem wixp {t : TypeId} {x y : Operand} {l : List (List DV)} {kd : IntKind} {j : Int} (e : List DV) (hg : guardP ops F o = some true) (hp : (!ch k && pinB ops ch k) = true) (ho : o.op = .indexAddr t x y) (hk : (tyOks t && Nat.beq (tyi t).kind 2) = true) (hx : S.toS (tyi t).ek (evP F x) = some l) (hy : evP F y = .d (.v (.int kd j)))
    (he : l[j.toNat]? = some e) (h0 : 0 ≤ j) (kk : WA Tryz.prog N ops ch U Ut (k + 1) rest (putP N o.dst (.ep e) F) S bm D q) : WA Tryz.prog N ops ch U Ut k (o :: rest) F S bm D q := by
  simp only [Bool.and_eq_true] at hk
  simp only [Bool.and_eq_true, Bool.not_eq_true'] at hp
  exact wa_pin hg hp.1 hp.2 (ops_indexS ho (tyok t hk.1) (Nat.eq_of_beq_eq_true hk.2) hx hy h0 he) kk
variable {c : Operand} {al : Array Operand} {ats : Array TypeId} {f : Nat} {caps args : List PV}
theorem wcp' (hD : Does f args ⟨[], []⟩ (.ret r) ⟨[], []⟩) (hg : guardP ops F o = some true) (ho : o.op = .call { callee := .value c, args := al, argTypes := ats }) (hc : evP F c = .fn f caps)
    (hlt : PV.ltL 0 0 args = true) (hlr : r.lt 0 0 = true) (ha : CoeL S (al.toList.map (evP F) ++ caps) args) (kk : WK Tryz.prog N ops rest (putP N o.dst r F) S q) : WK Tryz.prog N ops (o :: rest) F S q := by
  have h := ops_pure ho hD.1 hc hlt ha hD.2
  rw [ren_id r hlr] at h
  exact wk_op hg h kk
theorem wcpp (hD : Does f args ⟨[], []⟩ (.ret r) ⟨[], []⟩) (hg : guardP ops F o = some true) (hp : (!ch k && pinB ops ch k) = true) (ho : o.op = .call { callee := .value c, args := al, argTypes := ats }) (hc : evP F c = .fn f caps)
    (hlt : PV.ltL 0 0 args = true) (hlr : r.lt 0 0 = true) (ha : CoeL S (al.toList.map (evP F) ++ caps) args) (kk : WA Tryz.prog N ops ch U Ut (k + 1) rest (putP N o.dst r F) S bm D q) : WA Tryz.prog N ops ch U Ut k (o :: rest) F S bm D q := by
  simp only [Bool.and_eq_true, Bool.not_eq_true'] at hp
  have h := ops_pure ho hD.1 hc hlt ha hD.2
  rw [ren_id r hlr] at h
  exact wa_pin hg hp.1 hp.2 h kk
/-- A call that is handed one box of data. -/
theorem passes_box {id : Nat} {c0 : List PV} (hbox : S.boxes[id]? = some c0) (hl : PV.ltL 0 0 c0 = true) : Passes S ⟨[c0], []⟩ [id] [] := by
  refine ⟨by simp, by simp, rfl, rfl, fun i j h => ?_, fun t j h => by simp at h, ?_⟩
  · cases i with
    | zero => simp at h; subst h; simp [hbox, renL_id c0 hl]
    | succ i => simp at h
  · simpa using ltL_mono (Nat.zero_le 1) (Nat.le_refl 0) c0 hl
theorem after_box {id : Nat} {c1 : List PV} (hl : PV.ltL 0 0 c1 = true) : S.after [id] [] ⟨[c1], []⟩ = S.setBox id c1 := by
  cases S; simp [PS.after, updL, PS.setBox, renL_id c1 hl]
theorem ops_box1 {id : Nat} {c0 c1 : List PV} (hD : Does f args ⟨[c0], []⟩ (.ret r) ⟨[c1], []⟩) (ho : o.op = .call { callee := .value c, args := al, argTypes := ats }) (hc : evP F c = .fn f caps) (hbox : S.boxes[id]? = some c0) (hl0 : PV.ltL 0 0 c0 = true) (hl1 : PV.ltL 0 0 c1 = true) (hlr : r.lt 0 0 = true)
    (hlt : PV.ltL 1 0 args = true) (ha : CoeL S (al.toList.map (evP F) ++ caps) (PV.renL (fbN [id]) (ftN [] S.toks.length) args)) : OpS Tryz.prog o F S r (S.setBox id c1) := by
  have h := ops_call ho hD.1 hc (passes_box hbox hl0) ha hlt rfl hD.2
  rwa [ren_id r hlr, after_box hl1] at h
theorem opx_box1 {id : Nat} {c0 c1 : List PV} {x : Value} (hD : Does f args ⟨[c0], []⟩ (.panic x) ⟨[c1], []⟩) (ho : o.op = .call { callee := .value c, args := al, argTypes := ats }) (hc : evP F c = .fn f caps) (hbox : S.boxes[id]? = some c0) (hl0 : PV.ltL 0 0 c0 = true) (hl1 : PV.ltL 0 0 c1 = true)
    (hlt : PV.ltL 1 0 args = true) (ha : CoeL S (al.toList.map (evP F) ++ caps) (PV.renL (fbN [id]) (ftN [] S.toks.length) args)) : OpX Tryz.prog o F S x (S.setBox id c1) := by
  have h := opx_call ho hD.1 hc (passes_box hbox hl0) ha hlt rfl hD.2
  rwa [after_box hl1] at h
theorem wcb {id : Nat} {c0 c1 : List PV} (hD : Does f args ⟨[c0], []⟩ (.ret r) ⟨[c1], []⟩) (hg : guardP ops F o = some true) (ho : o.op = .call { callee := .value c, args := al, argTypes := ats }) (hc : evP F c = .fn f caps) (hbox : S.boxes[id]? = some c0) (hl0 : PV.ltL 0 0 c0 = true) (hl1 : PV.ltL 0 0 c1 = true) (hlr : r.lt 0 0 = true)
    (hlt : PV.ltL 1 0 args = true) (ha : CoeL S (al.toList.map (evP F) ++ caps) (PV.renL (fbN [id]) (ftN [] S.toks.length) args)) (hS : S.setBox id c1 = S') (kk : WK Tryz.prog N ops rest (putP N o.dst r F) S' q) : WK Tryz.prog N ops (o :: rest) F S q := by
  subst hS; exact wk_op hg (ops_box1 hD ho hc hbox hl0 hl1 hlr hlt ha) kk
theorem wcbx {id : Nat} {c0 c1 : List PV} {x : Value} (hD : Does f args ⟨[c0], []⟩ (.panic x) ⟨[c1], []⟩) (hg : guardP ops F o = some true) (ho : o.op = .call { callee := .value c, args := al, argTypes := ats }) (hc : evP F c = .fn f caps) (hbox : S.boxes[id]? = some c0) (hl0 : PV.ltL 0 0 c0 = true) (hl1 : PV.ltL 0 0 c1 = true)
    (hlt : PV.ltL 1 0 args = true) (ha : CoeL S (al.toList.map (evP F) ++ caps) (PV.renL (fbN [id]) (ftN [] S.toks.length) args)) (hS : S.setBox id c1 = S') (kk : q (.panic x S')) : WK Tryz.prog N ops (o :: rest) F S q := by
  subst hS; exact wk_panic hg (opx_box1 hD ho hc hbox hl0 hl1 hlt ha) kk
end
theorem nl_self {l : List PV} : NL l l := rfl
section
variable {N : Nat} {ops : Array Oper} {rest : List Oper} {o : Oper} {F : Nat → PV} {S S' S'' : PS} {q : WRes → Prop} {C : Prop} {r r' : PV} {Q : Exit → (Nat → PV) → PS → Prop} {ch : Nat → Bool} {U Ut : List Nat} {k : Nat} {bm : Bool} {D : List Nat}
theorem q1 (kk : WK Tryz.prog N ops rest (putP N o.dst r F) S' q) (hg : guardP ops F o = some true := by exact rfl) (h : stepA tyi tyOks F S o.op = some (C, r, S') := by exact rfl) (hC : C := by first | exact True.intro | (simp only [IntKind.lo, IntKind.hi]; omega) | omega | decide) : WK Tryz.prog N ops (o :: rest) F S q := wst hg h hC kk
theorem q2 (kk : WA Tryz.prog N ops chN U Ut (k + 1) rest (putP N o.dst r F) S bm D q) (hg : guardP ops F o = some true := by exact rfl) (h : stepA tyi tyOks F S o.op = some (C, r, S) := by exact rfl) (hC : C := by first | exact True.intro | (simp only [IntKind.lo, IntKind.hi]; omega) | omega | decide) : WA Tryz.prog N ops chN U Ut k (o :: rest) F S bm D q := wan hg h hC kk
theorem q3 {c : Operand} {x y : Code} (hx : PW Tryz.prog N x Q F S) (hc : evP F c = .d (.v (.bool true)) := by exact rfl) : PW Tryz.prog N (.cond c x y) Q F S := pw_cond_t hc hx
theorem q4 {c : Operand} {x y : Code} (hx : PW Tryz.prog N y Q F S) (hc : evP F c = .d (.v (.bool false)) := by exact rfl) : PW Tryz.prog N (.cond c x y) Q F S := pw_cond_f hc hx
theorem q5 (kk : WK Tryz.prog N ops rest (putP N o.dst .un F) S q) (hg : guardP ops F o = some false := by exact rfl) : WK Tryz.prog N ops (o :: rest) F S q := wk_skip hg kk
theorem q6 (kk : WA Tryz.prog N ops ch U Ut (k + 1) rest (putP N o.dst .un F) S bm D q) (hg : guardP ops F o = some false := by exact rfl) : WA Tryz.prog N ops ch U Ut k (o :: rest) F S bm D q := wa_skip hg kk
theorem q7 (kk : WK Tryz.prog N ops rest (putP N o.dst r' F) S'' q) (hg : guardP ops F o = some true := by exact rfl) (h : stepB tyi tyOks F S o.op = some (C, r, S') := by exact rfl) (hr : r = r' := by first | (apply nr_agg rfl; repeat (first | exact nl_nil rfl | apply nl_d rfl | apply nl_p rfl | apply nl_x rfl)) | exact nr_d rfl | (dsimp only [List.length_cons, List.length_nil, List.length_append, Nat.reduceAdd]; rfl) | rfl) (hS : S' = S'' := by (apply ns_of rfl; repeat (first | exact nl_nil rfl | apply nl_d rfl | apply nl_p rfl | apply nl_x rfl | exact nb_nil rfl | apply nb_cons rfl | exact nt_nil rfl | apply nt_cons rfl))) (hC : C := by first | exact True.intro | (simp only [IntKind.lo, IntKind.hi]; omega) | omega | decide) : WK Tryz.prog N ops (o :: rest) F S q := wstB hg h hr hS hC kk
theorem q7s (kk : WK Tryz.prog N ops rest (putP N o.dst r' F) S'' q) (hg : guardP ops F o = some true := by exact rfl) (h : stepB tyi tyOks F S o.op = some (C, r, S') := by exact rfl) (hr : r = r' := by first | (apply nr_agg rfl; repeat (first | exact nl_nil rfl | apply nl_d rfl | apply nl_p rfl | apply nl_x rfl)) | exact nr_d rfl | (dsimp only [List.length_cons, List.length_nil, List.length_append, Nat.reduceAdd]; rfl) | rfl) (hS : S' = S'' := by (apply ns_of rfl; repeat (first | exact nl_nil rfl | apply nl_d rfl | apply nl_p rfl | apply nl_x rfl | exact nb_nil rfl | apply nb_cons rfl | exact nt_nil rfl | apply nt_cons rfl | exact nl_self))) (hC : C := by first | exact True.intro | (simp only [IntKind.lo, IntKind.hi]; omega) | omega | decide) : WK Tryz.prog N ops (o :: rest) F S q := wstB hg h hr hS hC kk
theorem q8 (kk : WA Tryz.prog N ops chN U Ut (k + 1) rest (putP N o.dst r' F) S bm D q) (hg : guardP ops F o = some true := by exact rfl) (h : stepB tyi tyOks F S o.op = some (C, r, S) := by exact rfl) (hr : r = r' := by first | (apply nr_agg rfl; repeat (first | exact nl_nil rfl | apply nl_d rfl | apply nl_p rfl | apply nl_x rfl)) | exact nr_d rfl | (dsimp only [List.length_cons, List.length_nil, List.length_append, Nat.reduceAdd]; rfl) | rfl) (hC : C := by first | exact True.intro | (simp only [IntKind.lo, IntKind.hi]; omega) | omega | decide) : WA Tryz.prog N ops chN U Ut k (o :: rest) F S bm D q := wanB hg h hr hC kk
theorem q9 {id : Nat} {l : List Oper} (h : WA Tryz.prog N l.toArray chN [] [] 0 l F S false [] (resQ Q)) (hm : Tryz.prog.follows .mixedOrders = true := by exact rfl) (hB : anyB l.toArray chN = true := by kernel_rfl) : PW Tryz.prog N (.region id l.toArray true) Q F S := pw_regionA chN [] [] hm hB h
theorem q15 {fn : Func} {e : Exit} {ps : List PV} (hr : r' = r) (he : e = .normal ∨ e = .ret := by first | exact .inr rfl | exact .inl rfl) (hps : resPs F S fn.results.toList = some ps := by exact rfl)
    (hv : resV ps = r' := by first | (apply nr_agg rfl; repeat (first | exact nl_nil rfl | apply nl_d rfl | apply nl_p rfl | apply nl_x rfl)) | (apply nr_tup rfl; repeat (first | exact nl_nil rfl | apply nl_d rfl | apply nl_p rfl | apply nl_x rfl)) | exact nr_d rfl | rfl) (hlt : r.lt S'.boxes.length S'.toks.length = true := by exact rfl)
    (hall : (S.boxes.take S'.boxes.length).all (fun c => PV.ltL S'.boxes.length S'.toks.length c) = true := by exact rfl) (hcut : S.cut S'.boxes.length S'.toks.length = S' := by exact rfl) : bodyQ Tryz.prog fn (.ret r) S' e F S := fin hall hcut he hps hv hr hlt
theorem q16 {d : Nat} {x y : Code} {b : Bool} (hx : b = true → PW Tryz.prog N x Q (setS d (.d (.v (.bool true))) F) S) (hy : b = false → PW Tryz.prog N y Q (setS d (.d (.v (.bool false))) F) S) (hF : F d = .d (.v (.bool b)) := by exact rfl) : PW Tryz.prog N (.cond (.tmp d) x y) Q F S := pw_split hF hx hy
theorem q17 {j : Nat} {want b : Bool} {d : Nat} (h1 : b = true → WK Tryz.prog N ops (o :: rest) (setS d (.d (.v (.bool true))) F) S q) (h0 : b = false → WK Tryz.prog N ops (o :: rest) (setS d (.d (.v (.bool false))) F) S q) (ho : o.guard = some (j, want) := by exact rfl) (hd : (ops[j]?).bind (·.dst) = some d := by exact rfl) (hF : F d = .d (.v (.bool b)) := by exact rfl) (hu : Und b := by (fail_if_success (exact und_any true)); (fail_if_success (exact und_any false)); exact und_any _) : WK Tryz.prog N ops (o :: rest) (F) S q := wk_ask ho hd hF hu h1 h0
theorem q18 {j : Nat} {want b : Bool} {d : Nat} (h1 : b = true → WA Tryz.prog N ops ch U Ut k (o :: rest) (setS d (.d (.v (.bool true))) F) S bm D q) (h0 : b = false → WA Tryz.prog N ops ch U Ut k (o :: rest) (setS d (.d (.v (.bool false))) F) S bm D q) (ho : o.guard = some (j, want) := by exact rfl) (hd : (ops[j]?).bind (·.dst) = some d := by exact rfl) (hF : F d = .d (.v (.bool b)) := by exact rfl) (hu : Und b := by (fail_if_success (exact und_any true)); (fail_if_success (exact und_any false)); exact und_any _) : WA Tryz.prog N ops ch U Ut k (o :: rest) (F) S bm D q := wa_ask ho hd hF hu h1 h0
end
end Go.Proofs.YtiledamgmppcmaaGreatDoor
/-! PlT -/
namespace Go.Proofs.YtiledamgmppcmaaGreatDoor
open Go.RowKit

section
variable {P : Program} {N : Nat} {Q : Exit → (Nat → PV) → PS → Prop} {F : Nat → PV} {S : PS}

theorem step_cut {K K' : Kx} {S0 : PS} {w w' : World} {n m : Nat} (hI : Inv K S0 w) (hs : Step K K' w w') (hn : S0.boxes.length ≤ n) (hm : S0.toks.length ≤ m) : Step K (K'.cut n m) w w' := by
  refine ⟨hs.os, hs.tape, hs.output, hs.size, fun i b hb => ?_, fun b hb => hs.βnew b (List.mem_of_mem_take hb), hs.M, hs.T, fun t c hc => ?_, fun t' c' g lo' h8 h9 => hs.τnew t' c' g lo' (take_get h8).1 h9, hs.blocks, hs.cells⟩
  · show (K'.β.take _)[i]? = _
    have := (List.getElem?_eq_some_iff.1 hb).1
    rw [hI.lenβ] at this
    rw [List.getElem?_take, if_pos (by omega)]
    exact hs.β i b hb
  · obtain ⟨c', h8, h9⟩ := hs.τ t c hc
    refine ⟨c', ?_, h9⟩
    show (K'.τ.take _)[t]? = _
    have := (List.getElem?_eq_some_iff.1 hc).1
    rw [hI.lenτ] at this
    rw [List.getElem?_take, if_pos (by omega)]
    exact h8
/-- Slots that lead to the first boxes and rows alone. -/
def ltF (n m : Nat) (L : List (Nat × PV)) : Bool := L.all fun p => p.2.lt n m
theorem fr_cut {K : Kx} {w : World} {a : Act} {L : List (Nat × PV)} {n m : Nat} (h : FrLe L F) (hl : ltF n m L = true) (hF : FrameRep K w N F a) : FrameRep (K.cut n m) w N (fr L) a := by
  have h1 := fr_rep h hF
  refine ⟨h1.size, fun t => ?_⟩
  have key : (fr L t).lt n m = true := by
    unfold fr
    clear h h1
    induction L with
    | nil => rfl
    | cons p r ih =>
      simp only [ltF, List.all_cons, Bool.and_eq_true] at hl
      simp only [look]
      cases e : Nat.beq t p.1 with
      | true => exact hl.1
      | false => exact ih hl.2
  exact Rep.cut _ _ key (h1.rep t)

/-- A loop whose rounds may leave boxes and rows behind that nothing leads to any more. -/
theorem pw_loopC {c : Code} {ι : Type} (ok : ι → Prop) (L : ι → List (Nat × PV)) (Sx : ι → PS) (μ : ι → Nat) (i0 : ι) (h0 : ok i0) (hF0 : FrLe (L i0) F) (hS0 : S = Sx i0)
    (round : ∀ i, ok i → PW P N c (thenQ (fun F' S' => ∃ j, ok j ∧ μ j < μ i ∧ FrLe (L j) F' ∧ S'.cut (Sx j).boxes.length (Sx j).toks.length = Sx j ∧ (S'.boxes.take (Sx j).boxes.length).all (fun c => PV.ltL (Sx j).boxes.length (Sx j).toks.length c) = true ∧ ltF (Sx j).boxes.length (Sx j).toks.length (L j) = true ∧ (Sx i).boxes.length ≤ (Sx j).boxes.length ∧ (Sx i).toks.length ≤ (Sx j).toks.length) Q) (fr (L i)) (Sx i)) : PW P N (.loop c) Q F S := by
  refine ⟨fun ro mm K w a hI hF => ?_⟩
  subst hS0
  let R : Act → World → Nat → Prop := fun a' w' n => ∃ i K', μ i = n ∧ ok i ∧ Step K K' w w' ∧ Inv K' (Sx i) w' ∧ FrameRep K' w' N (fr (L i)) a' ∧ a'.defers = a.defers
  have hmin : ∀ a' w', (∃ n, R a' w' n) → ∃ n, R a' w' n ∧ ∀ m, R a' w' m → n ≤ m := fun a' w' h => least h
  let μ' : Act → World → Nat := fun a' w' => open Classical in if h : ∃ n, R a' w' n then Classical.choose (hmin a' w' h) else 0
  have hμ : ∀ a' w', (h : ∃ n, R a' w' n) → R a' w' (μ' a' w') ∧ ∀ m, R a' w' m → μ' a' w' ≤ m := by
    intro a' w' h
    have : μ' a' w' = Classical.choose (hmin a' w' h) := dif_pos h
    rw [this]
    exact Classical.choose_spec (hmin a' w' h)
  refine wpIn_loop (fun a' w' => ∃ n, R a' w' n) μ' ⟨_, i0, K, rfl, h0, Step.refl K w, hI, fr_rep hF0 hF, rfl⟩ fun a' w' hR => ?_
  obtain ⟨⟨i, K', h1, h2, h3, h4, h5, h6⟩, _⟩ := hμ a' w' hR
  refine wpIn_mono ((round i h2).run ro mm K' w' a' h4 h5) fun e a2 w2 hq => ?_
  obtain ⟨K2, F2, S2, h7, h8, h9, h10, h11⟩ := hq
  cases e with
  | normal =>
    obtain ⟨j, hj, hlt, hL, hcut, hall, hlf, hb, ht⟩ := h11
    have h8' := h8.cut hall
    rw [hcut] at h8'
    have hR2 : R a2 w2 (μ j) := ⟨j, _, rfl, hj, h3.trans hI (step_cut h4 h7 hb ht), h8', fr_cut hL hlf h9, h10.trans h6⟩
    exact ⟨⟨_, hR2⟩, Nat.lt_of_le_of_lt ((hμ a2 w2 ⟨_, hR2⟩).2 _ hR2) (by rw [← h1]; exact hlt)⟩
  | ret => exact ⟨K2, F2, S2, h3.trans hI h7, h8, h9, h10.trans h6, h11⟩
  | exit id => exact ⟨K2, F2, S2, h3.trans hI h7, h8, h9, h10.trans h6, h11⟩
  | goto l => exact ⟨K2, F2, S2, h3.trans hI h7, h8, h9, h10.trans h6, h11⟩
  | panic c => exact ⟨K2, F2, S2, h3.trans hI h7, h8, h9, h10.trans h6, h11⟩
  | outgrown => exact ⟨K2, F2, S2, h3.trans hI h7, h8, h9, h10.trans h6, h11⟩

/-- A slot that holds a nil slice begins a row. -/
theorem pw_mint {c : Code} (t k : Nat) (e : TypeId) (hF : F t = .d (.v (.slice none 0 0))) (h : PW P N c Q (setS t (.hd S.toks.length 0) F) (S.addTok ⟨0, k, [], e⟩)) : PW P N c Q F S := by
  refine ⟨fun ro mm K w a hI hFr => ?_⟩
  obtain ⟨K', h1, h2, h3⟩ := hI.mint k e
  refine wpIn_mono (h.run ro mm K' w a h1 ⟨hFr.size, fun t' => ?_⟩) fun e a2 w2 hq => ?_
  · unfold setS
    cases hb : Nat.beq t' t with
    | true =>
      have := Nat.eq_of_beq_eq_true hb
      subst this
      have h4 := hFr.rep t'
      rw [hF] at h4
      rw [rep_v h4]
      exact h3
    | false => exact Rep.step h2 _ _ (hFr.rep t')
  · exact hq.step hI h2

theorem toS_hd {t n k e : Nat} {l : List (List DV)} (h : S.toks[t]? = some ⟨n, k, l, e⟩) : S.toS k (.hd t n) = some l := by simp [PS.toS, h]
variable {o : Oper}
/-- An element of an array that is a value. -/
theorem ops_indexV {t : TypeId} {x y : Operand} {I J : TyI} {l : List PV} {kd : IntKind} {j : Int} {p : PV} (ho : o.op = .index t x y) (hI : TyI.of P t = some I) (hk : I.kind = 3) (hJ : TyI.of P I.elem = some J) (hx : evP F x = .agg l) (hy : evP F y = .d (.v (.int kd j))) (h0 : 0 ≤ j) (h1 : j < I.len)
    (hp : (J.isRow = true ∧ p = .agg ((l.drop (j.toNat * J.size)).take J.size) ∧ j.toNat * J.size + J.size ≤ l.length) ∨ (J.isRow = false ∧ l[j.toNat * J.size]? = some p)) : OpS P o F S p S :=
  OpS.pure fun K w ρ hInv h => by
    have hx1 := h x (by simp [ho, Op.operands])
    have hy1 := h y (by simp [ho, Op.operands])
    rw [hx] at hx1
    rw [hy] at hy1
    have hy1 := rep_v hy1
    simp only [Rep] at hx1
    obtain ⟨cs, h2, h3⟩ := hx1
    obtain ⟨i, d, z, hi, hu, hz, _, _, hd⟩ := TyI.inv hI
    rw [hk] at hd; simp at hd
    obtain ⟨rfl, ie, hie, hek⟩ := hd
    obtain ⟨hrow, hsize⟩ := TyI.row hJ
    rw [hie] at hsize
    have hisz : ie.size = J.size := by simpa using hsize
    cases hue : P.underlying I.elem with
    | none => rw [hue] at hrow; simp at hrow
    | some d =>
      rw [hue] at hrow
      rcases hp with ⟨hr, rfl, hle⟩ | ⟨hr, hp⟩
      · have hag : (isAgg I.elem).run P w = .ok true w := by
          have : d.isRow = true := by rw [show (J.kind == 3 || J.kind == 4) = true from hr] at hrow; simpa using hrow
          cases d <;> simp [TypeDesc.isRow] at this <;> simp [isAgg, underlying, program, go_sem, hue, Sem.run]
        refine ⟨.agg (cs.toArray.extract (j.toNat * J.size) (j.toNat * J.size + J.size)), ?_, ?_⟩
        · simp only [execOp, ho, h2, hy1, Instr.index, asIntOf, Sem.run_bind, Sem.run_pure, run_underlying hu, Result.andThen_ok, part, hag, sizeOf, typeInfo]
          simp [hie, hisz, h0, h1, go_sem, hag]
        · simp only [Rep]
          refine ⟨(cs.drop (j.toNat * J.size)).take J.size, ?_, (h3.drop _).take _⟩
          simp [List.extract_eq_take_drop]
      · have hag : (isAgg I.elem).run P w = .ok false w := by
          have : d.isRow = false := by rw [show (J.kind == 3 || J.kind == 4) = false from hr] at hrow; simpa using hrow
          cases d <;> simp [TypeDesc.isRow] at this <;> simp [isAgg, underlying, program, go_sem, hue, Sem.run]
        obtain ⟨u, h4, h5⟩ := RepL.get h3 hp
        refine ⟨u, ?_, h5⟩
        simp only [execOp, ho, h2, hy1, Instr.index, asIntOf, Sem.run_bind, Sem.run_pure, run_underlying hu, Result.andThen_ok, part, hag, sizeOf, typeInfo]
        simp [hie, hisz, h0, h1, go_sem, hag, h4]
end

section
variable {N : Nat} {ops : Array Oper} {rest : List Oper} {o : Oper} {F : Nat → PV} {S S' : PS} {q : WRes → Prop}
/-- A row grows. -/
theorem wapp {t : TypeId} {x y : Operand} {tk n k e : Nat} {l news : List (List DV)} (hg : guardP ops F o = some true) (ho : o.op = .call { callee := .builtin .append, args := #[x, y], argTypes := #[t, t] }) (hk : (tyOks t && Nat.beq (tyi t).kind 2 && Nat.beq k (tyi t).ek && Nat.beq e (tyi t).elem) = true) (hx : evP F x = .hd tk n)
    (hT : S.toks[tk]? = some ⟨n, k, l, e⟩) (hy : S.toS (tyi t).ek (evP F y) = some news) (h1 : (l.length + news.length) * (tyi t).eb ≤ 140737488355328) (h2 : l.length + news.length ≤ 9223372036854775807) (hS : S.setTok tk ⟨n + 1, k, l ++ news, e⟩ = S') (kk : WK Tryz.prog N ops rest (putP N o.dst (.hd tk (n + 1)) F) S' q) : WK Tryz.prog N ops (o :: rest) F S q := by
  subst hS
  simp only [Bool.and_eq_true] at hk
  exact wk_op hg (ops_appendS (T := ⟨n, k, l, e⟩) ho (tyok t hk.1.1.1) (Nat.eq_of_beq_eq_true hk.1.1.2) hx hT (Nat.eq_of_beq_eq_true hk.1.2) (Nat.eq_of_beq_eq_true hk.2) hy h1 h2) kk
theorem wiv {t : TypeId} {x y : Operand} {l : List PV} {kd : IntKind} {j : Int} (l' : List PV) (hg : guardP ops F o = some true) (ho : o.op = .index t x y) (hk : (tyOks t && Nat.beq (tyi t).kind 3 && tyOks (tyi t).elem && (tyi (tyi t).elem).isRow) = true) (hx : evP F x = .agg l) (hy : evP F y = .d (.v (.int kd j))) (h0 : 0 ≤ j ∧ j < (tyi t).len)
    (hl : (l.drop (j.toNat * (tyi (tyi t).elem).size)).take (tyi (tyi t).elem).size = l' ∧ j.toNat * (tyi (tyi t).elem).size + (tyi (tyi t).elem).size ≤ l.length) (kk : WK Tryz.prog N ops rest (putP N o.dst (.agg l') F) S q) : WK Tryz.prog N ops (o :: rest) F S q := by
  obtain ⟨rfl, hl⟩ := hl
  simp only [Bool.and_eq_true] at hk
  exact wk_op hg (ops_indexV ho (tyok t hk.1.1.1) (Nat.eq_of_beq_eq_true hk.1.1.2) (tyok _ hk.1.2) hx hy h0.1 h0.2 (.inl ⟨hk.2, rfl, hl⟩)) kk
end
end Go.Proofs.YtiledamgmppcmaaGreatDoor
/-! Br -/
namespace Go.Proofs.YtiledamgmppcmaaGreatDoor
open Go.RowKit
/-- A function that leaves all old blocks alone and yields one plain value. -/
theorem does_calls {f : Nat} {fn : Func} {c : Code} {args : List PV} {v : Value} (hf : Tryz.prog.funcs[f]? = some fn) (hname : (fn.name == "runtime.NumGoroutine") = false) (hb : fn.body = some c) (hv : v.oneCell' = true)
    (h : ∀ (K : Kx) (w : World) (vs : List Value), Fz K w → RepL K w args vs → Calls Tryz.prog f vs.toArray w fun e w' => e = .returned v ∧ Below w.heap.size w w') : Does f args ⟨[], []⟩ (.ret (.d (.v v))) ⟨[], []⟩ := by
  refine ⟨enters_of hf hname hb, fun K w vs hI hA => (h K w vs hI.fz hA).mono ?_⟩
  rintro e w' ⟨rfl, hB⟩
  obtain ⟨h1, h2⟩ := hI.below hB
  exact ⟨K, h2, h1, v, rfl, by simp only [Rep, RepD]; exact ⟨trivial, hv⟩⟩
end Go.Proofs.YtiledamgmppcmaaGreatDoor
/-! ExT -/
namespace Go.Proofs.YtiledamgmppcmaaGreatDoor
inductive Ex where
  | mk (op n : Int) (name : ByteArray) (args : List Ex)
def Ex.op : Ex → Int | .mk o _ _ _ => o
def Ex.n : Ex → Int | .mk _ n _ _ => n
def Ex.name : Ex → ByteArray | .mk _ _ s _ => s
def Ex.args : Ex → List Ex | .mk _ _ _ l => l
def Ex.nil : Ex := .mk 0 0 ⟨#[]⟩ []
end Go.Proofs.YtiledamgmppcmaaGreatDoor
/-! Tr -/
namespace Go.Proofs.YtiledamgmppcmaaGreatDoor
open Go.RowKit

mutual
def exD : Ex → List DV
  | .mk o n s l => [.v (.int .i64 o), .v (.int .i64 n), .v (.string s), .sl 4 (exDs l)]
def exDs : List Ex → List (List DV)
  | [] => []
  | x :: l => exD x :: exDs l
end
theorem exDs_map : ∀ l : List Ex, exDs l = l.map exD
  | [] => rfl
  | x :: l => by simp [exDs, exDs_map l]
theorem exDs_get {l : List Ex} {i : Nat} {x : Ex} (h : l[i]? = some x) : (exDs l)[((i : Nat) : Int).toNat]? = some [.v (.int .i64 x.op), .v (.int .i64 x.n), .v (.string x.name), .sl 4 (exDs x.args)] := by
  rw [exDs_map]; cases x; simp [h, exD, Ex.op, Ex.n, Ex.name, Ex.args]
theorem exDs_length (l : List Ex) : (exDs l).length = l.length := by rw [exDs_map]; simp
@[reducible] def exP (x : Ex) : PV := .agg [.d (.v (.int .i64 x.op)), .d (.v (.int .i64 x.n)), .d (.v (.string x.name)), .d (.sl 4 (exDs x.args))]
@[reducible] def intP (n : Int) : PV := .d (.v (.int .i64 n))
@[reducible] def boolP (b : Bool) : PV := .d (.v (.bool b))
@[reducible] def strP (s : ByteArray) : PV := .d (.v (.string s))
mutual
def Ex.same : Ex → Ex → Bool
  | .mk o n s l, .mk o' n' s' l' => decide (o = o') && decide (n = n') && decide (s = s') && sames l l'
def sames : List Ex → List Ex → Bool
  | [], [] => true
  | x :: l, y :: l' => x.same y && sames l l'
  | _, _ => false
end
mutual
def Ex.hgt : Ex → Nat
  | .mk _ _ _ l => hgts l + 1
def hgts : List Ex → Nat
  | [] => 0
  | x :: l => max x.hgt (hgts l)
end
theorem hgt_mem : ∀ {l : List Ex} {x : Ex}, x ∈ l → x.hgt ≤ hgts l
  | y :: l, x, h => by
    rcases List.mem_cons.1 h with rfl | h
    · exact Nat.le_max_left _ _
    · exact Nat.le_trans (hgt_mem h) (Nat.le_max_right _ _)
theorem hgt_arg {x y : Ex} (h : y ∈ x.args) : y.hgt < x.hgt := by
  cases x; exact Nat.lt_succ_of_le (hgt_mem h)
end Go.Proofs.YtiledamgmppcmaaGreatDoor
/-! Fin -/
namespace Go.Proofs.YtiledamgmppcmaaGreatDoor
open Go.RowKit Go.ChangeShapes Go.ChangeAt Go.WideShapes
def Kz : Kx := ⟨[], [], fun _ => False, fun _ _ => False⟩
theorem kz_good {W : World} : ∀ b hi, b < W.heap.size → Kz.good W b hi := fun b hi h => ⟨h, by simp [Kz], by simp [Kz], by simp [Kz], by simp [Kz]⟩
theorem kz_inv {W : World} (hfz : ∀ p ∈ frozen, ∃ ty r, W.heap[p.1]? = some (.cells p.2 ty r)) : Inv Kz ⟨[], []⟩ W where
  lenβ := rfl
  lenτ := rfl
  box i b c h := by simp [Kz] at h
  nodup := List.nodup_nil
  βM b h := by simp [Kz] at h
  tok t T c h := by simp at h
  tokF t c g lo h := by simp [Kz] at h
  tokI t t' c c' g lo lo' h := by simp [Kz] at h
  tokH t c u h := by simp [Kz] at h
  Mlt b h := by simp [Kz] at h
  Tlt b lo h := by simp [Kz] at h
  fz p hp := ⟨hfz p hp, by simp [Kz], by simp [Kz]⟩
theorem law_calls {f : Nat} {args : List PV} {W : World} {vs : List Value} (hD : Does f args ⟨[], []⟩ (.ret (boolP true)) ⟨[], []⟩) (hfz : ∀ p ∈ frozen, ∃ ty r, W.heap[p.1]? = some (.cells p.2 ty r)) (hr : RepL Kz W args vs) :
    Calls Tryz.prog f vs.toArray W fun e W' => e = .returned (.bool true) ∧ Below W.heap.size W W' := by
  refine (hD.2 Kz W vs (kz_inv hfz) hr).mono ?_
  rintro e W' ⟨K', hs, _, v, rfl, hv⟩
  rw [rep_v hv]
  exact ⟨rfl, hs.os, hs.tape, hs.output, hs.size, fun k hk => hs.blocks k hk (by simp [Kz]) (by simp [Kz])⟩
section
variable {P : Program} {W : World} {H : Type} {enc : TypeId × Value → H} {base : Nat} {spare : Nat → Bool} {held : Bool} {r : Reach} {b0 : Nat} {ts : List TypeId} {t : TypeId} {v : Value} {d : DataW H} {p : List MemPlace}
theorem rd_row {fs : Array Field} (hcl : closedB P ts = true) (ht : ts.any (Nat.beq t) = true) (hu : P.underlying t = some (.struct fs)) (hv : Value.okWide P W r b0 t v) (h : DataW.Trod enc P W base spare held t v d p) : ∃ n ds, Shp P n t ds ∧ Rep Kz W (.agg (ds.map .d)) v := by
  obtain ⟨cs, rfl, _⟩ := okWide_struct hu hv
  obtain ⟨fuel, hf⟩ := h
  obtain ⟨ds, h1, h2⟩ := rd_trod (K := Kz) hcl kz_good fuel t _ _ (any_mem ht) hf
  exact ⟨fuel, ds, h2, by simp only [Rep]; exact ⟨cs.toList, by simp, h1⟩⟩
theorem rd_int {k : IntKind} (hu : P.underlying t = some (.int k)) (hv : Value.okWide P W r b0 t v) (h : DataW.Trod enc P W base spare held t v d p) : ∃ z, Rep Kz W (.d (.v (.int k z))) v ∧ (Lit.int k z).wf = true := by
  obtain ⟨z, rfl, _, _, hw⟩ := open_int hu hv h
  exact ⟨z, ⟨rfl, rfl⟩, hw⟩
theorem rd_slice {e : TypeId} (hcl : closedB P ts = true) (ht : ts.any (Nat.beq t) = true) (hu : P.underlying t = some (.slice e)) (hv : Value.okWide P W r b0 t v) (h : DataW.Trod enc P W base spare held t v d p) : ∃ n l, Rep Kz W (.d (.sl (P.cellsOf e) l)) v ∧ ∀ x ∈ l, Shp P n e x := by
  obtain ⟨a, len, cap, rfl⟩ := okWide_slice hu hv
  obtain ⟨fuel, hf⟩ := h
  obtain ⟨ds, h1, h2⟩ := rd_trod (K := Kz) hcl kz_good fuel t _ _ (any_mem ht) hf
  cases fuel with
  | zero => exact h2.elim
  | succ n =>
    unfold Shp at h2
    rw [hu] at h2
    obtain ⟨l, rfl, _, h3⟩ := h2
    obtain ⟨u, us, h4, h5, h6⟩ := h1
    simp [Value.cells] at h4
    exact ⟨n, l, by rw [h4.1]; exact h5, h3⟩
variable {n : Nat} {ds : List DV}
theorem shp_int {k : IntKind} (hu : P.underlying t = some (.int k)) (h : Shp P n t ds) : ∃ z, ds = [.v (.int k z)] ∧ (Lit.int k z).wf = true := by
  cases n with
  | zero => exact h.elim
  | succ n => unfold Shp at h; rw [hu] at h; exact h
theorem shp_str (hu : P.underlying t = some .string) (h : Shp P n t ds) : ∃ s : ByteArray, ds = [.v (.string s)] ∧ s.size ≤ 9223372036854775807 := by
  cases n with
  | zero => exact h.elim
  | succ n => unfold Shp at h; rw [hu] at h; exact h
theorem shp_slice {e : TypeId} (hu : P.underlying t = some (.slice e)) (h : Shp P n t ds) : ∃ m l, n = m + 1 ∧ ds = [.sl (P.cellsOf e) l] ∧ ∀ x ∈ l, Shp P m e x := by
  cases n with
  | zero => exact h.elim
  | succ n => unfold Shp at h; rw [hu] at h; obtain ⟨l, h1, _, h2⟩ := h; exact ⟨n, l, rfl, h1, h2⟩
theorem shp_struct {fs : Array Field} (hu : P.underlying t = some (.struct fs)) (h : Shp P n t ds) : ∃ m parts, n = m + 1 ∧ ds = List.flatten parts ∧ parts.length = fs.size ∧ ∀ (i : Nat) (f : Field) (p : List DV), fs[i]? = some f → parts[i]? = some p → Shp P m f.type p := by
  cases n with
  | zero => exact h.elim
  | succ n => unfold Shp at h; rw [hu] at h; obtain ⟨l, h1, h2, h3⟩ := h; exact ⟨n, l, rfl, h1, h2, h3⟩
theorem list_of {α : Type} {R : α → Prop} (f : α → List DV) : ∀ {l : List (List DV)}, (∀ x ∈ l, ∃ a, x = f a ∧ R a) → ∃ zs : List α, l = zs.map f ∧ ∀ a ∈ zs, R a
  | [], _ => ⟨[], rfl, fun _ h => by cases h⟩
  | x :: l, h => by
    obtain ⟨a, rfl, ha⟩ := h x List.mem_cons_self
    obtain ⟨zs, rfl, has⟩ := list_of f (l := l) fun y hy => h y (List.mem_cons_of_mem _ hy)
    refine ⟨a :: zs, rfl, fun b hb => ?_⟩
    rcases List.mem_cons.1 hb with rfl | hb
    · exact ha
    · exact has b hb
end
theorem parts4 {parts : List (List DV)} (h : parts.length = 4) : ∃ a b c d, parts = [a, b, c, d] := by
  match parts, h with
  | [a, b, c, d], _ => exact ⟨a, b, c, d, rfl⟩
theorem parts5 {parts : List (List DV)} (h : parts.length = 5) : ∃ a b c d e, parts = [a, b, c, d, e] := by
  match parts, h with
  | [a, b, c, d, e], _ => exact ⟨a, b, c, d, e, rfl⟩
/-- The tables that the row's list lays. -/
theorem frozen_of {W : World} {l : List (String × DataW Unit)} (hL : laidMet Tryz.prog l W) (hm : ∃ d, ("internal/strconv.uint64pow10", d) ∈ l ∧ d = Lib.tabData .u64 Lib.pow10Tab) : ∀ p ∈ frozen, ∃ ty r, W.heap[p.1]? = some (.cells p.2 ty r) := by
  intro p hp
  obtain rfl := List.mem_singleton.1 hp
  obtain ⟨d, hm, rfl⟩ := hm
  obtain ⟨g, t, cs, fuel, q, hg, ht, hv, hd⟩ := Lib.laidMet.reads hL hm
  obtain rfl := Option.some.inj ((show Tryz.prog.globalNamed "internal/strconv.uint64pow10" = some 0 by kernel_rfl).symm.trans hg)
  obtain rfl := Option.some.inj ((show (Tryz.prog.globals[0]?).map (·.type) = some 285 by kernel_rfl).symm.trans ht)
  have hcs := Lib.cells_of_tab (t := 285) (e := 230) (n := 20) (k := .u64) (by kernel_rfl) (by kernel_rfl) (by kernel_rfl) (by kernel_rfl) hd
  unfold World.var? at hv
  rw [hg] at hv
  simp only [Option.bind_some] at hv
  split at hv
  · rename_i c ty r hh
    cases hv
    refine ⟨ty, r, ?_⟩
    rw [hh]
    have : cs = (Lib.pow10Tab.map fun z => Value.int .u64 z).toArray := by rw [← hcs]
    rw [this]
  · cases hv
end Go.Proofs.YtiledamgmppcmaaGreatDoor
/-! RfA -/
namespace Go.Proofs.YtiledamgmppcmaaGreatDoor
open Go.RowKit
def strE (s : ByteArray) : List DV := [.v (.string s)]
@[reducible] def strsP (l : List ByteArray) : PV := .d (.sl 1 (l.map strE))
def memS (l : List ByteArray) (s : ByteArray) : Bool := l.any fun x => decide (x = s)
theorem map_get {α : Type} {f : α → List DV} {l : List α} {i : Nat} {x : α} (h : l[i]? = some x) : (l.map f)[((i : Nat) : Int).toNat]? = some (f x) := by simp [h]
theorem memS_take {l : List ByteArray} {s x : ByteArray} {i : Nat} (hx : l[i]? = some x) (h : memS (l.take i) s = false) : memS (l.take (i + 1)) s = decide (x = s) := by
  obtain ⟨hlt, rfl⟩ := List.getElem?_eq_some_iff.1 hx
  unfold memS at h ⊢
  rw [List.take_succ_eq_append_getElem hlt, List.any_append, h]; simp
theorem memS_yes {l : List ByteArray} {s : ByteArray} {i : Nat} (hx : l[i]? = some s) : memS l s = true := by
  unfold memS; rw [List.any_eq_true]; exact ⟨s, List.mem_of_getElem? hx, by simp⟩
set_option maxHeartbeats 400000 in
theorem in_do (l : List ByteArray) (s : ByteArray) : Does 78 [.d (.sl 1 (l.map strE)), .d (.v (.string s))] ⟨[], []⟩ (.ret (.d (.v (.bool (memS l s))))) ⟨[], []⟩ := by
  refine does_bodyf Tryz.func78 rfl rfl (Nat.le_of_ble_eq_true rfl) rfl (Nat.le_refl _) ?_
  intro hf
  have hl : l.length ≤ 9223372036854775807 := by have := hf.1; simpa [fitP] using this
  repeat' (first | refine q1 ?_ | refine q2 ?_ | refine wk_nil ?_ | refine wa_nil ?_ | refine pw_seq ?_ | refine pw_region ?_ | refine pw_block ?_ | refine pw_skip ?_ | refine pw_ret ?_ | refine pw_exit ?_ | refine q3 ?_ | refine q4 ?_ | refine q5 ?_ | refine q6 ?_ | refine q7 ?_ | refine q8 ?_ | refine q17 (fun h => ?_) (fun h => ?_) | refine q18 (fun h => ?_) (fun h => ?_) | refine q9 ?_ | refine q10 ?_ | refine q11 ?_ | refine q12 ?_ | refine q13 ?_ | refine q14 ?_ | fail)
  refine pw_loop (ι := Nat) (ok := fun i => i ≤ l.length ∧ memS (l.take i) s = false) (L := fun i => [(0, .d (.sl 1 (l.map strE))), (1, .d (.v (.string s))), (5, .d (.v (.int .i64 i)))]) (Sx := fun _ => ⟨[], []⟩) (μ := fun i => l.length - i) 0 ⟨Nat.zero_le _, by simp [memS]⟩ (by repeat (first | exact frle_nil | refine frle_cons rfl ?_)) rfl ?_
  rintro i ⟨hi, hm⟩
  repeat' (first | refine q1 ?_ | refine q2 ?_ | refine wk_nil ?_ | refine wa_nil ?_ | refine pw_seq ?_ | refine pw_region ?_ | refine pw_block ?_ | refine pw_skip ?_ | refine pw_ret ?_ | refine pw_exit ?_ | refine q3 ?_ | refine q4 ?_ | refine q5 ?_ | refine q6 ?_ | refine q7 ?_ | refine q8 ?_ | refine q17 (fun h => ?_) (fun h => ?_) | refine q18 (fun h => ?_) (fun h => ?_) | refine q9 ?_ | refine q10 ?_ | refine q11 ?_ | refine q12 ?_ | refine q13 ?_ | refine q14 ?_ | fail)
  simp only [List.length_map]
  refine pw_cond rfl (fun h => ?_) (fun h => ?_)
  · repeat' (first | refine q1 ?_ | refine q2 ?_ | refine wk_nil ?_ | refine wa_nil ?_ | refine pw_seq ?_ | refine pw_region ?_ | refine pw_block ?_ | refine pw_skip ?_ | refine pw_ret ?_ | refine pw_exit ?_ | refine q3 ?_ | refine q4 ?_ | refine q5 ?_ | refine q6 ?_ | refine q7 ?_ | refine q8 ?_ | refine q17 (fun h => ?_) (fun h => ?_) | refine q18 (fun h => ?_) (fun h => ?_) | refine q9 ?_ | refine q10 ?_ | refine q11 ?_ | refine q12 ?_ | refine q13 ?_ | refine q14 ?_ | fail)
    have hlt : i < l.length := by simpa using h
    obtain ⟨x, hx⟩ : ∃ x, l[i]? = some x := ⟨_, List.getElem?_eq_getElem hlt⟩
    refine wix (strE x) rfl rfl rfl rfl rfl (map_get hx) (by omega) ?_
    repeat' (first | refine q1 ?_ | refine q2 ?_ | refine wk_nil ?_ | refine wa_nil ?_ | refine pw_seq ?_ | refine pw_region ?_ | refine pw_block ?_ | refine pw_skip ?_ | refine pw_ret ?_ | refine pw_exit ?_ | refine q3 ?_ | refine q4 ?_ | refine q5 ?_ | refine q6 ?_ | refine q7 ?_ | refine q8 ?_ | refine q17 (fun h => ?_) (fun h => ?_) | refine q18 (fun h => ?_) (fun h => ?_) | refine q9 ?_ | refine q10 ?_ | refine q11 ?_ | refine q12 ?_ | refine q13 ?_ | refine q14 ?_ | fail)
    refine pw_cond rfl (fun h2 => ?_) (fun h2 => ?_)
    · repeat' (first | refine q1 ?_ | refine q2 ?_ | refine wk_nil ?_ | refine wa_nil ?_ | refine pw_seq ?_ | refine pw_region ?_ | refine pw_block ?_ | refine pw_skip ?_ | refine pw_ret ?_ | refine pw_exit ?_ | refine q3 ?_ | refine q4 ?_ | refine q5 ?_ | refine q6 ?_ | refine q7 ?_ | refine q8 ?_ | refine q17 (fun h => ?_) (fun h => ?_) | refine q18 (fun h => ?_) (fun h => ?_) | refine q9 ?_ | refine q10 ?_ | refine q11 ?_ | refine q12 ?_ | refine q13 ?_ | refine q14 ?_ | fail)
      refine q15 ?_
      rw [memS_yes (by rw [hx]; congr 1; simpa using h2)]
    · repeat' (first | refine q1 ?_ | refine q2 ?_ | refine wk_nil ?_ | refine wa_nil ?_ | refine pw_seq ?_ | refine pw_region ?_ | refine pw_block ?_ | refine pw_skip ?_ | refine pw_ret ?_ | refine pw_exit ?_ | refine q3 ?_ | refine q4 ?_ | refine q5 ?_ | refine q6 ?_ | refine q7 ?_ | refine q8 ?_ | refine q17 (fun h => ?_) (fun h => ?_) | refine q18 (fun h => ?_) (fun h => ?_) | refine q9 ?_ | refine q10 ?_ | refine q11 ?_ | refine q12 ?_ | refine q13 ?_ | refine q14 ?_ | fail)
      exact ⟨i + 1, ⟨by omega, by rw [memS_take hx hm]; exact h2⟩, by omega, by repeat (first | exact frle_nil | refine frle_cons rfl ?_), rfl⟩
  · repeat' (first | refine q1 ?_ | refine q2 ?_ | refine wk_nil ?_ | refine wa_nil ?_ | refine pw_seq ?_ | refine pw_region ?_ | refine pw_block ?_ | refine pw_skip ?_ | refine pw_ret ?_ | refine pw_exit ?_ | refine q3 ?_ | refine q4 ?_ | refine q5 ?_ | refine q6 ?_ | refine q7 ?_ | refine q8 ?_ | refine q17 (fun h => ?_) (fun h => ?_) | refine q18 (fun h => ?_) (fun h => ?_) | refine q9 ?_ | refine q10 ?_ | refine q11 ?_ | refine q12 ?_ | refine q13 ?_ | refine q14 ?_ | fail)
    refine q15 ?_
    rw [List.take_of_length_le (by simp at h; omega)] at hm
    rw [hm]

/-- How many operands. -/
def arityZ (op : Int) : Int :=
  if op = 1 ∨ op = 2 ∨ op = 3 ∨ op = 4 then 0 else if op = 5 ∨ op = 6 then 1 else if 7 ≤ op ∧ op ≤ 18 then 2 else if op = 19 then 3 else -1
end Go.Proofs.YtiledamgmppcmaaGreatDoor
/-! RfB -/
namespace Go.Proofs.YtiledamgmppcmaaGreatDoor
open Go.RowKit
def levelZ (op : Int) : Int := if op = 19 then 0 else if op = 18 then 1 else if op = 17 then 2 else if op = 6 then 3 else if 11 ≤ op ∧ op ≤ 16 then 4 else if op = 7 ∨ op = 8 then 5 else if op = 9 ∨ op = 10 then 6 else if op = 5 then 7 else 8
def signZ (op : Int) : ByteArray :=
  if op = 5 ∨ op = 8 then ⟨#[45]⟩ else if op = 6 then ⟨#[110, 111, 116]⟩ else if op = 7 then ⟨#[43]⟩ else if op = 9 then ⟨#[42]⟩ else if op = 10 then ⟨#[47]⟩ else if op = 11 then ⟨#[61]⟩ else if op = 12 then ⟨#[33, 61]⟩ else
  if op = 13 then ⟨#[60]⟩ else if op = 14 then ⟨#[60, 61]⟩ else if op = 15 then ⟨#[62]⟩ else if op = 16 then ⟨#[62, 61]⟩ else if op = 17 then ⟨#[97, 110, 100]⟩ else ⟨#[111, 114]⟩
theorem level_do (x : Ex) : Does 63 [exP x] ⟨[], []⟩ (.ret (intP (levelZ x.op))) ⟨[], []⟩ := by
  refine does_body Tryz.func63 rfl rfl (Nat.le_of_ble_eq_true rfl) rfl (Nat.le_refl _) ?_
  repeat' (first | refine q1 ?_ | refine q2 ?_ | refine wk_nil ?_ | refine wa_nil ?_ | refine pw_seq ?_ | refine pw_region ?_ | refine pw_block ?_ | refine pw_skip ?_ | refine pw_ret ?_ | refine pw_exit ?_ | refine q3 ?_ | refine q4 ?_ | refine q5 ?_ | refine q6 ?_ | refine q7 ?_ | refine q8 ?_ | refine q17 (fun h => ?_) (fun h => ?_) | refine q18 (fun h => ?_) (fun h => ?_) | refine q9 ?_ | refine q10 ?_ | refine q11 ?_ | refine q12 ?_ | refine q13 ?_ | refine q14 ?_ | refine q15 ?_ | refine q16 (fun h => ?_) (fun h => ?_) | fail)
  all_goals simp only [decide_eq_true_eq, decide_eq_false_iff_not] at *
  all_goals congr 4
  all_goals unfold levelZ
  all_goals (repeat' split)
  all_goals omega
theorem sign_do (op : Int) : Does 64 [intP op] ⟨[], []⟩ (.ret (strP (signZ op))) ⟨[], []⟩ := by
  refine does_body Tryz.func64 rfl rfl (Nat.le_of_ble_eq_true rfl) rfl (Nat.le_refl _) ?_
  repeat' (first | refine q1 ?_ | refine q2 ?_ | refine wk_nil ?_ | refine wa_nil ?_ | refine pw_seq ?_ | refine pw_region ?_ | refine pw_block ?_ | refine pw_skip ?_ | refine pw_ret ?_ | refine pw_exit ?_ | refine q3 ?_ | refine q4 ?_ | refine q5 ?_ | refine q6 ?_ | refine q7 ?_ | refine q8 ?_ | refine q17 (fun h => ?_) (fun h => ?_) | refine q18 (fun h => ?_) (fun h => ?_) | refine q9 ?_ | refine q10 ?_ | refine q11 ?_ | refine q12 ?_ | refine q13 ?_ | refine q14 ?_ | refine q15 ?_ | refine q16 (fun h => ?_) (fun h => ?_) | fail)
  all_goals simp only [decide_eq_true_eq, decide_eq_false_iff_not] at *
  all_goals congr 3
  all_goals simp_all [signZ]
end Go.Proofs.YtiledamgmppcmaaGreatDoor
/-! RfC -/
namespace Go.Proofs.YtiledamgmppcmaaGreatDoor
open Go.RowKit
def wantZ (op : Int) : Int := if op = 6 ∨ op = 17 ∨ op = 18 then 2 else 1
def isZ (op : Int) : Int := if op = 3 ∨ op = 4 ∨ op = 6 ∨ (11 ≤ op ∧ op ≤ 18) then 2 else 1
mutual
def kindX (vars : List ByteArray) : Ex → Int
  | .mk o _ s l => if o = 2 ∧ memS vars s = false then 0 else if o = 19 then (match kindXs vars l with | [a, b, c] => if a ≠ 2 ∨ b ≠ c then 0 else b | _ => 0) else if (kindXs vars l).all (· == wantZ o) then isZ o else 0
def kindXs (vars : List ByteArray) : List Ex → List Int
  | [] => []
  | x :: l => kindX vars x :: kindXs vars l
end
mutual
/-- Each operator has the number of operands that it wants. -/
def Ex.fits : Ex → Bool
  | .mk o _ _ l => decide ((l.length : Int) = arityZ o) && fitsL l
def fitsL : List Ex → Bool
  | [] => true
  | x :: l => x.fits && fitsL l
end
theorem kindX_eq (vars : List ByteArray) (x : Ex) : kindX vars x = if x.op = 2 ∧ memS vars x.name = false then 0 else if x.op = 19 then (match kindXs vars x.args with | [a, b, c] => if a ≠ 2 ∨ b ≠ c then 0 else b | _ => 0) else if (kindXs vars x.args).all (· == wantZ x.op) then isZ x.op else 0 := by
  cases x; rfl
theorem fits_args {x : Ex} (h : x.fits = true) : (x.args.length : Int) = arityZ x.op ∧ fitsL x.args = true := by
  cases x; simpa [Ex.fits, Ex.args, Ex.op] using h
theorem fitsL_mem : ∀ {l : List Ex}, fitsL l = true → ∀ x ∈ l, x.fits = true
  | y :: l, h, x, hx => by
    simp only [fitsL, Bool.and_eq_true] at h
    rcases List.mem_cons.1 hx with rfl | hx
    · exact h.1
    · exact fitsL_mem h.2 x hx
theorem fits_arg {x y : Ex} (h : x.fits = true) (hy : y ∈ x.args) : y.fits = true := fitsL_mem (fits_args h).2 y hy
theorem kindXs_map (vars : List ByteArray) : ∀ l : List Ex, kindXs vars l = l.map (kindX vars)
  | [] => rfl
  | x :: l => by simp [kindXs, kindXs_map vars l]
theorem all_take {α : Type} {l : List α} {p : α → Bool} {i : Nat} {x : α} (hx : l[i]? = some x) (h : (l.take i).all p = true) (hp : p x = true) : (l.take (i + 1)).all p = true := by
  obtain ⟨hlt, rfl⟩ := List.getElem?_eq_some_iff.1 hx
  rw [List.take_succ_eq_append_getElem hlt, List.all_append, h]; simp [hp]
theorem allB_no {α : Type} {l : List α} {p : α → Bool} {i : Nat} {x : α} (hx : l[i]? = some x) (hp : p x = false) : l.all p = false := by
  rw [List.all_eq_false]; exact ⟨x, List.mem_of_getElem? hx, by simp [hp]⟩
theorem args3 {x : Ex} (h : x.fits = true) (ho : x.op = 19) : ∃ a b c, x.args = [a, b, c] := by
  have := (fits_args h).1
  rw [ho, show arityZ 19 = 3 from rfl] at this
  match e : x.args, this with
  | [a, b, c], _ => exact ⟨a, b, c, rfl⟩
  | [], h => simp at h
  | [_], h => simp at h
  | [_, _], h => simp at h
  | _ :: _ :: _ :: _ :: _, h => simp at h; omega
set_option maxHeartbeats 1000000 in
theorem kind_do (vars : List ByteArray) : ∀ (n : Nat) (x : Ex), x.hgt ≤ n → x.fits = true → Does 56 [exP x, strsP vars] ⟨[], []⟩ (.ret (intP (kindX vars x))) ⟨[], []⟩ := by
  intro n
  induction n with
  | zero => intro a h; cases a; simp [Ex.hgt] at h
  | succ n ih =>
    intro x hn hx
    refine does_bodyf Tryz.func56 rfl rfl (Nat.le_of_ble_eq_true rfl) rfl (Nat.le_refl _) ?_
    intro hf
    have hfit : x.args.length ≤ 9223372036854775807 := by rw [← exDs_length]; exact hf.1.2.2.2.1
    have hvar : vars.length ≤ 9223372036854775807 := by have := hf.2.1; simpa [fitP] using this
    repeat' (first | refine q1 ?_ | refine q2 ?_ | refine wk_nil ?_ | refine wa_nil ?_ | refine pw_seq ?_ | refine pw_region ?_ | refine pw_skip ?_ | refine pw_ret ?_ | refine pw_exit ?_ | refine q3 ?_ | refine q4 ?_ | refine q5 ?_ | refine q6 ?_ | refine q7 ?_ | refine q8 ?_ | refine q17 (fun h => ?_) (fun h => ?_) | refine q18 (fun h => ?_) (fun h => ?_) | refine q9 ?_ | refine q10 ?_ | refine q11 ?_ | refine q12 ?_ | refine q13 ?_ | refine q14 ?_ | refine q15 ?_ | refine q16 (fun h => ?_) (fun h => ?_) | fail)
    refine pw_mid (ι := Int × Int) (ok := fun p => p = (wantZ x.op, isZ x.op) ∧ x.op ≠ 19 ∧ ¬ (x.op = 2 ∧ memS vars x.name = false)) (L := fun p => [(1, strsP vars), (2, .ptr 0 0), (5, intP p.1), (6, intP p.2)]) (Sx := fun _ => ⟨[(exP x).parts], []⟩) ?_ ?_
    · repeat' (first | refine q1 ?_ | refine q2 ?_ | refine wk_nil ?_ | refine wa_nil ?_ | refine pw_seq ?_ | refine pw_region ?_ | refine pw_block ?_ | refine pw_skip ?_ | refine pw_ret ?_ | refine pw_exit ?_ | refine q3 ?_ | refine q4 ?_ | refine q5 ?_ | refine q6 ?_ | refine q7 ?_ | refine q8 ?_ | refine q17 (fun h => ?_) (fun h => ?_) | refine q18 (fun h => ?_) (fun h => ?_) | refine q9 ?_ | refine q10 ?_ | refine q11 ?_ | refine q12 ?_ | refine q13 ?_ | refine q14 ?_ | refine q15 ?_ | refine q16 (fun h => ?_) (fun h => ?_) | fail)
      · refine wcp' (in_do vars x.name) rfl rfl rfl rfl rfl (by repeat (first | exact coeL_nil | refine coeL_cons (coe_refl _) ?_)) ?_
        repeat' (first | refine q1 ?_ | refine q2 ?_ | refine wk_nil ?_ | refine wa_nil ?_ | refine pw_seq ?_ | refine pw_region ?_ | refine pw_block ?_ | refine pw_skip ?_ | refine pw_ret ?_ | refine pw_exit ?_ | refine q3 ?_ | refine q4 ?_ | refine q5 ?_ | refine q6 ?_ | refine q7 ?_ | refine q8 ?_ | refine q17 (fun h => ?_) (fun h => ?_) | refine q18 (fun h => ?_) (fun h => ?_) | refine q9 ?_ | refine q10 ?_ | refine q11 ?_ | refine q12 ?_ | refine q13 ?_ | refine q14 ?_ | refine q15 ?_ | refine q16 (fun h => ?_) (fun h => ?_) | fail)
        · rw [kindX_eq, if_pos (by simp_all)]
        · refine ⟨(_, _), ?_, (by repeat (first | exact frle_nil | refine frle_cons rfl ?_)), rfl⟩
          simp_all [wantZ, isZ]
      rotate_right 2
      · obtain ⟨a, b, c, he⟩ := args3 hx (by simpa using h)
        have ha := fun y (hy : y ∈ x.args) => ih y (by have := hgt_arg hy; omega) (fits_arg hx hy)
        refine wixn _ rfl rfl rfl rfl rfl (exDs_get (i := 0) (x := a) (by rw [he]; rfl)) (by omega) ?_
        repeat' (first | refine q1 ?_ | refine q2 ?_ | refine wk_nil ?_ | refine wa_nil ?_ | refine pw_seq ?_ | refine pw_region ?_ | refine pw_block ?_ | refine pw_skip ?_ | refine pw_ret ?_ | refine pw_exit ?_ | refine q3 ?_ | refine q4 ?_ | refine q5 ?_ | refine q6 ?_ | refine q7 ?_ | refine q8 ?_ | refine q17 (fun h => ?_) (fun h => ?_) | refine q18 (fun h => ?_) (fun h => ?_) | refine q9 ?_ | refine q10 ?_ | refine q11 ?_ | refine q12 ?_ | refine q13 ?_ | refine q14 ?_ | refine q15 ?_ | refine q16 (fun h => ?_) (fun h => ?_) | fail)
        refine wcn (ha a (by rw [he]; simp)) rfl rfl rfl rfl rfl (by repeat (first | exact coeL_nil | refine coeL_cons (coe_refl _) ?_)) ?_
        repeat' (first | refine q1 ?_ | refine q2 ?_ | refine wk_nil ?_ | refine wa_nil ?_ | refine pw_seq ?_ | refine pw_region ?_ | refine pw_block ?_ | refine pw_skip ?_ | refine pw_ret ?_ | refine pw_exit ?_ | refine q3 ?_ | refine q4 ?_ | refine q5 ?_ | refine q6 ?_ | refine q7 ?_ | refine q8 ?_ | refine q17 (fun h => ?_) (fun h => ?_) | refine q18 (fun h => ?_) (fun h => ?_) | refine q9 ?_ | refine q10 ?_ | refine q11 ?_ | refine q12 ?_ | refine q13 ?_ | refine q14 ?_ | refine q15 ?_ | refine q16 (fun h => ?_) (fun h => ?_) | fail)
        refine wixn _ rfl rfl rfl rfl rfl (exDs_get (i := 1) (x := b) (by rw [he]; rfl)) (by omega) ?_
        repeat' (first | refine q1 ?_ | refine q2 ?_ | refine wk_nil ?_ | refine wa_nil ?_ | refine pw_seq ?_ | refine pw_region ?_ | refine pw_block ?_ | refine pw_skip ?_ | refine pw_ret ?_ | refine pw_exit ?_ | refine q3 ?_ | refine q4 ?_ | refine q5 ?_ | refine q6 ?_ | refine q7 ?_ | refine q8 ?_ | refine q17 (fun h => ?_) (fun h => ?_) | refine q18 (fun h => ?_) (fun h => ?_) | refine q9 ?_ | refine q10 ?_ | refine q11 ?_ | refine q12 ?_ | refine q13 ?_ | refine q14 ?_ | refine q15 ?_ | refine q16 (fun h => ?_) (fun h => ?_) | fail)
        refine wcn (ha b (by rw [he]; simp)) rfl rfl rfl rfl rfl (by repeat (first | exact coeL_nil | refine coeL_cons (coe_refl _) ?_)) ?_
        repeat' (first | refine q1 ?_ | refine q2 ?_ | refine wk_nil ?_ | refine wa_nil ?_ | refine pw_seq ?_ | refine pw_region ?_ | refine pw_block ?_ | refine pw_skip ?_ | refine pw_ret ?_ | refine pw_exit ?_ | refine q3 ?_ | refine q4 ?_ | refine q5 ?_ | refine q6 ?_ | refine q7 ?_ | refine q8 ?_ | refine q17 (fun h => ?_) (fun h => ?_) | refine q18 (fun h => ?_) (fun h => ?_) | refine q9 ?_ | refine q10 ?_ | refine q11 ?_ | refine q12 ?_ | refine q13 ?_ | refine q14 ?_ | refine q15 ?_ | refine q16 (fun h => ?_) (fun h => ?_) | fail)
        refine wixn _ rfl rfl rfl rfl rfl (exDs_get (i := 2) (x := c) (by rw [he]; rfl)) (by omega) ?_
        repeat' (first | refine q1 ?_ | refine q2 ?_ | refine wk_nil ?_ | refine wa_nil ?_ | refine pw_seq ?_ | refine pw_region ?_ | refine pw_block ?_ | refine pw_skip ?_ | refine pw_ret ?_ | refine pw_exit ?_ | refine q3 ?_ | refine q4 ?_ | refine q5 ?_ | refine q6 ?_ | refine q7 ?_ | refine q8 ?_ | refine q17 (fun h => ?_) (fun h => ?_) | refine q18 (fun h => ?_) (fun h => ?_) | refine q9 ?_ | refine q10 ?_ | refine q11 ?_ | refine q12 ?_ | refine q13 ?_ | refine q14 ?_ | refine q15 ?_ | refine q16 (fun h => ?_) (fun h => ?_) | fail)
        refine wcn (ha c (by rw [he]; simp)) rfl rfl rfl rfl rfl (by repeat (first | exact coeL_nil | refine coeL_cons (coe_refl _) ?_)) ?_
        repeat' (first | refine q1 ?_ | refine q2 ?_ | refine wk_nil ?_ | refine wa_nil ?_ | refine pw_seq ?_ | refine pw_region ?_ | refine pw_block ?_ | refine pw_skip ?_ | refine pw_ret ?_ | refine pw_exit ?_ | refine q3 ?_ | refine q4 ?_ | refine q5 ?_ | refine q6 ?_ | refine q7 ?_ | refine q8 ?_ | refine q17 (fun h => ?_) (fun h => ?_) | refine q18 (fun h => ?_) (fun h => ?_) | refine q9 ?_ | refine q10 ?_ | refine q11 ?_ | refine q12 ?_ | refine q13 ?_ | refine q14 ?_ | refine q15 ?_ | refine q16 (fun h => ?_) (fun h => ?_) | fail)
        all_goals rw [kindX_eq vars x, he]
        all_goals simp_all [kindXs]
      · refine ⟨(_, _), ?_, (by repeat (first | exact frle_nil | refine frle_cons rfl ?_)), rfl⟩
        simp only [decide_eq_true_eq, decide_eq_false_iff_not] at *
        simp_all [wantZ, isZ]
        omega
      all_goals refine ⟨(_, _), ?_, (by repeat (first | exact frle_nil | refine frle_cons rfl ?_)), rfl⟩
      all_goals simp only [decide_eq_true_eq, decide_eq_false_iff_not] at *
      all_goals simp_all [wantZ, isZ]
    · rintro _ ⟨rfl, h19, h2⟩
      have hk : kindX vars x = if (kindXs vars x.args).all (· == wantZ x.op) then isZ x.op else 0 := by rw [kindX_eq, if_neg h2, if_neg h19]
      repeat' (first | refine q1 ?_ | refine q2 ?_ | refine wk_nil ?_ | refine wa_nil ?_ | refine pw_seq ?_ | refine pw_region ?_ | refine pw_block ?_ | refine pw_skip ?_ | refine pw_ret ?_ | refine pw_exit ?_ | refine q3 ?_ | refine q4 ?_ | refine q5 ?_ | refine q6 ?_ | refine q7 ?_ | refine q8 ?_ | refine q17 (fun h => ?_) (fun h => ?_) | refine q18 (fun h => ?_) (fun h => ?_) | refine q9 ?_ | refine q10 ?_ | refine q11 ?_ | refine q12 ?_ | refine q13 ?_ | refine q14 ?_ | refine q15 ?_ | refine q16 (fun h => ?_) (fun h => ?_) | fail)
      refine pw_loop (ι := Nat) (ok := fun i => i ≤ x.args.length ∧ ((kindXs vars x.args).take i).all (· == wantZ x.op) = true) (L := fun i => [(1, strsP vars), (2, .ptr 0 0), (5, intP (wantZ x.op)), (6, intP (isZ x.op)), (10, intP i)]) (Sx := fun _ => ⟨[(exP x).parts], []⟩) (μ := fun i => x.args.length - i) 0 ⟨Nat.zero_le _, by simp⟩ (by repeat (first | exact frle_nil | refine frle_cons rfl ?_)) rfl ?_
      rintro i ⟨hi, hm⟩
      repeat' (first | refine q1 ?_ | refine q2 ?_ | refine wk_nil ?_ | refine wa_nil ?_ | refine pw_seq ?_ | refine pw_region ?_ | refine pw_block ?_ | refine pw_skip ?_ | refine pw_ret ?_ | refine pw_exit ?_ | refine q3 ?_ | refine q4 ?_ | refine q5 ?_ | refine q6 ?_ | refine q7 ?_ | refine q8 ?_ | refine q17 (fun h => ?_) (fun h => ?_) | refine q18 (fun h => ?_) (fun h => ?_) | refine q9 ?_ | refine q10 ?_ | refine q11 ?_ | refine q12 ?_ | refine q13 ?_ | refine q14 ?_ | refine q15 ?_ | refine q16 (fun h => ?_) (fun h => ?_) | fail)
      · have hlt : i < x.args.length := by rw [exDs_length] at h; simpa using h
        obtain ⟨y, hy⟩ : ∃ y, x.args[i]? = some y := ⟨_, List.getElem?_eq_getElem hlt⟩
        refine wix _ rfl rfl rfl rfl rfl (exDs_get hy) (by omega) ?_
        repeat' (first | refine q1 ?_ | refine q2 ?_ | refine wk_nil ?_ | refine wa_nil ?_ | refine pw_seq ?_ | refine pw_region ?_ | refine pw_block ?_ | refine pw_skip ?_ | refine pw_ret ?_ | refine pw_exit ?_ | refine q3 ?_ | refine q4 ?_ | refine q5 ?_ | refine q6 ?_ | refine q7 ?_ | refine q8 ?_ | refine q17 (fun h => ?_) (fun h => ?_) | refine q18 (fun h => ?_) (fun h => ?_) | refine q9 ?_ | refine q10 ?_ | refine q11 ?_ | refine q12 ?_ | refine q13 ?_ | refine q14 ?_ | refine q15 ?_ | refine q16 (fun h => ?_) (fun h => ?_) | fail)
        have hy2 := List.mem_of_getElem? hy
        have hy3 : (kindXs vars x.args)[i]? = some (kindX vars y) := by rw [kindXs_map]; simp [hy]
        refine wcp' (ih y (by have := hgt_arg hy2; omega) (fits_arg hx hy2)) rfl rfl rfl rfl rfl (by repeat (first | exact coeL_nil | refine coeL_cons (coe_refl _) ?_)) ?_
        repeat' (first | refine q1 ?_ | refine q2 ?_ | refine wk_nil ?_ | refine wa_nil ?_ | refine pw_seq ?_ | refine pw_region ?_ | refine pw_block ?_ | refine pw_skip ?_ | refine pw_ret ?_ | refine pw_exit ?_ | refine q3 ?_ | refine q4 ?_ | refine q5 ?_ | refine q6 ?_ | refine q7 ?_ | refine q8 ?_ | refine q17 (fun h => ?_) (fun h => ?_) | refine q18 (fun h => ?_) (fun h => ?_) | refine q9 ?_ | refine q10 ?_ | refine q11 ?_ | refine q12 ?_ | refine q13 ?_ | refine q14 ?_ | refine q15 ?_ | refine q16 (fun h => ?_) (fun h => ?_) | fail)
        · rw [hk, allB_no hy3 (by simp_all)]; rfl
        · exact ⟨i + 1, ⟨by omega, all_take hy3 hm (by simp_all)⟩, by omega, (by repeat (first | exact frle_nil | refine frle_cons rfl ?_)), rfl⟩
      · rw [List.take_of_length_le (by rw [kindXs_map]; rw [exDs_length] at h; simp at h ⊢; omega)] at hm
        rw [hk, hm]; rfl
end Go.Proofs.YtiledamgmppcmaaGreatDoor
/-! ExK -/
namespace Go.Proofs.YtiledamgmppcmaaGreatDoor
open Go.RowKit
/-- An operator: how many operands, of which type they and it are, how strongly it holds, how it is written. -/
def opTabP : List (Int × Int × Int × Int × ByteArray) :=
  [(0, 0, 0, 0, ⟨#[]⟩), (0, 0, 1, 8, ⟨#[]⟩), (0, 0, 1, 8, ⟨#[]⟩), (0, 0, 2, 8, ⟨#[116, 114, 117, 101]⟩), (0, 0, 2, 8, ⟨#[102, 97, 108, 115, 101]⟩), (1, 1, 1, 7, ⟨#[45]⟩), (1, 2, 2, 3, ⟨#[110, 111, 116]⟩),
   (2, 1, 1, 5, ⟨#[43]⟩), (2, 1, 1, 5, ⟨#[45]⟩), (2, 1, 1, 6, ⟨#[42]⟩), (2, 1, 1, 6, ⟨#[47]⟩), (2, 1, 2, 4, ⟨#[61]⟩), (2, 1, 2, 4, ⟨#[33, 61]⟩), (2, 1, 2, 4, ⟨#[60]⟩), (2, 1, 2, 4, ⟨#[60, 61]⟩), (2, 1, 2, 4, ⟨#[62]⟩), (2, 1, 2, 4, ⟨#[62, 61]⟩),
   (2, 2, 2, 2, ⟨#[97, 110, 100]⟩), (2, 2, 2, 1, ⟨#[111, 114]⟩), (3, 0, 0, 0, ⟨#[105, 102]⟩)]
@[reducible] def opP (o : Int × Int × Int × Int × ByteArray) : List PV := [intP o.1, intP o.2.1, intP o.2.2.1, intP o.2.2.2.1, strP o.2.2.2.2]
def opZ (op : Int) : Int × Int × Int × Int × ByteArray := (opTabP[op.toNat]?).getD (0, 0, 0, 0, ⟨#[]⟩)
def opsL : List PV := opTabP.flatMap opP
theorem opCases {op : Int} (h1 : 1 ≤ op) (h2 : op ≤ 19) : op = 1 ∨ op = 2 ∨ op = 3 ∨ op = 4 ∨ op = 5 ∨ op = 6 ∨ op = 7 ∨ op = 8 ∨ op = 9 ∨ op = 10 ∨ op = 11 ∨ op = 12 ∨ op = 13 ∨ op = 14 ∨ op = 15 ∨ op = 16 ∨ op = 17 ∨ op = 18 ∨ op = 19 := by omega
theorem opsL_row {op : Int} (h1 : 1 ≤ op) (h2 : op ≤ 19) : (opsL.drop (op.toNat * 5)).take 5 = opP (opZ op) ∧ op.toNat * 5 + 5 ≤ opsL.length := by
  rcases opCases h1 h2 with rfl | rfl | rfl | rfl | rfl | rfl | rfl | rfl | rfl | rfl | rfl | rfl | rfl | rfl | rfl | rfl | rfl | rfl | rfl <;> exact ⟨rfl, Nat.le_of_ble_eq_true rfl⟩
set_option maxRecDepth 20000 in
theorem operators_do : Does 143 [] ⟨[], []⟩ (.ret (.agg opsL)) ⟨[], []⟩ := by
  refine does_body Tryz.func143 rfl rfl (Nat.le_of_ble_eq_true rfl) rfl (Nat.le_refl _) ?_
  repeat' (first | refine q1 ?_ | refine q2 ?_ | refine wk_nil ?_ | refine wa_nil ?_ | refine pw_seq ?_ | refine pw_region ?_ | refine pw_block ?_ | refine pw_skip ?_ | refine pw_ret ?_ | refine pw_exit ?_ | refine q3 ?_ | refine q4 ?_ | refine q5 ?_ | refine q6 ?_ | refine q7 ?_ | refine q8 ?_ | refine q17 (fun h => ?_) (fun h => ?_) | refine q18 (fun h => ?_) (fun h => ?_) | refine q9 ?_ | refine q10 ?_ | refine q11 ?_ | refine q12 ?_ | refine q13 ?_ | refine q14 ?_ | refine q15 ?_ | refine q16 (fun h => ?_) (fun h => ?_) | fail)
  rfl
def knownB (op : Int) : Bool := decide (1 ≤ op) && decide (op ≤ 19)
theorem known_do (op : Int) : Does 99 [intP op] ⟨[], []⟩ (.ret (.tup [.agg (opP (bif knownB op then opZ op else (0, 0, 0, 0, ⟨#[]⟩))), boolP (knownB op)])) ⟨[], []⟩ := by
  refine does_body Tryz.func99 rfl rfl (Nat.le_of_ble_eq_true rfl) rfl (Nat.le_refl _) ?_
  repeat' (first | refine q1 ?_ | refine q2 ?_ | refine wk_nil ?_ | refine wa_nil ?_ | refine pw_seq ?_ | refine pw_region ?_ | refine pw_block ?_ | refine pw_skip ?_ | refine pw_ret ?_ | refine pw_exit ?_ | refine q3 ?_ | refine q4 ?_ | refine q5 ?_ | refine q6 ?_ | refine q7 ?_ | refine q8 ?_ | refine q17 (fun h => ?_) (fun h => ?_) | refine q18 (fun h => ?_) (fun h => ?_) | refine q9 ?_ | refine q10 ?_ | refine q11 ?_ | refine q12 ?_ | refine q13 ?_ | refine q14 ?_ | refine q15 ?_ | refine q16 (fun h => ?_) (fun h => ?_) | fail)
  · rw [show knownB op = false from by (have h' := h; simp at h'; simp [knownB]; omega)]; rfl
  · rw [show knownB op = false from by (have h' := h; simp at h'; simp [knownB]; omega)]; rfl
  · have h1 : 1 ≤ op ∧ op ≤ 19 := by simp_all
    refine wcp' operators_do rfl rfl rfl rfl rfl (by repeat (first | exact coeL_nil | refine coeL_cons (coe_refl _) ?_)) ?_
    repeat' (first | refine q1 ?_ | refine q2 ?_ | refine wk_nil ?_ | refine wa_nil ?_ | refine pw_seq ?_ | refine pw_region ?_ | refine pw_block ?_ | refine pw_skip ?_ | refine pw_ret ?_ | refine pw_exit ?_ | refine q3 ?_ | refine q4 ?_ | refine q5 ?_ | refine q6 ?_ | refine q7 ?_ | refine q8 ?_ | refine q17 (fun h => ?_) (fun h => ?_) | refine q18 (fun h => ?_) (fun h => ?_) | refine q9 ?_ | refine q10 ?_ | refine q11 ?_ | refine q12 ?_ | refine q13 ?_ | refine q14 ?_ | refine q15 ?_ | refine q16 (fun h => ?_) (fun h => ?_) | fail)
    refine wiv (opP (opZ op)) rfl rfl rfl rfl rfl ⟨by omega, ?_⟩ (opsL_row h1.1 h1.2) ?_
    · show op < 20; omega
    repeat' (first | refine q1 ?_ | refine q2 ?_ | refine wk_nil ?_ | refine wa_nil ?_ | refine pw_seq ?_ | refine pw_region ?_ | refine pw_block ?_ | refine pw_skip ?_ | refine pw_ret ?_ | refine pw_exit ?_ | refine q3 ?_ | refine q4 ?_ | refine q5 ?_ | refine q6 ?_ | refine q7 ?_ | refine q8 ?_ | refine q17 (fun h => ?_) (fun h => ?_) | refine q18 (fun h => ?_) (fun h => ?_) | refine q9 ?_ | refine q10 ?_ | refine q11 ?_ | refine q12 ?_ | refine q13 ?_ | refine q14 ?_ | refine q15 ?_ | refine q16 (fun h => ?_) (fun h => ?_) | fail)
    rw [show knownB op = true from by simp [knownB, h1]]; rfl
end Go.Proofs.YtiledamgmppcmaaGreatDoor
/-! ExL -/
namespace Go.Proofs.YtiledamgmppcmaaGreatDoor
open Go.RowKit
def idxS : List ByteArray → ByteArray → Int
  | [], _ => -1
  | x :: r, s => if x = s then 0 else if idxS r s < 0 then -1 else idxS r s + 1
theorem idxS_hit : ∀ {l : List ByteArray} {s : ByteArray} {i : Nat}, l[i]? = some s → memS (l.take i) s = false → idxS l s = i
  | [], s, i, h, _ => by simp at h
  | x :: r, s, 0, h, _ => by simp at h; simp [idxS, h]
  | x :: r, s, i + 1, h, hm => by
    simp only [List.getElem?_cons_succ] at h
    simp only [List.take_succ_cons, memS, List.any_cons, Bool.or_eq_false_iff] at hm
    have h1 := idxS_hit h hm.2
    have h2 : x ≠ s := by simpa using hm.1
    simp only [idxS, if_neg h2, h1]
    rw [if_neg (by omega)]; omega
theorem idxS_none : ∀ {l : List ByteArray} {s : ByteArray}, memS l s = false → idxS l s = -1
  | [], s, _ => rfl
  | x :: r, s, hm => by
    simp only [memS, List.any_cons, Bool.or_eq_false_iff] at hm
    have h2 : x ≠ s := by simpa using hm.1
    simp [idxS, if_neg h2, idxS_none hm.2]
theorem idxS_mem (l : List ByteArray) (s : ByteArray) : memS l s = decide (0 ≤ idxS l s) := by
  induction l with
  | nil => rfl
  | cons x r ih =>
    simp only [memS, List.any_cons, idxS]
    by_cases h : x = s
    · simp [h]
    · simp only [h, decide_false, Bool.false_or, if_false]
      show memS r s = _
      rw [ih]
      by_cases h2 : idxS r s < 0
      · simp [h2]
      · simp [h2]; omega
theorem index_do (l : List ByteArray) (s : ByteArray) : Does 97 [strsP l, strP s] ⟨[], []⟩ (.ret (intP (idxS l s))) ⟨[], []⟩ := by
  refine does_bodyf Tryz.func97 rfl rfl (Nat.le_of_ble_eq_true rfl) rfl (Nat.le_refl _) ?_
  intro hf
  have hl : l.length ≤ 9223372036854775807 := by have := hf.1; simpa [fitP] using this
  repeat' (first | refine q1 ?_ | refine q2 ?_ | refine wk_nil ?_ | refine wa_nil ?_ | refine pw_seq ?_ | refine pw_region ?_ | refine pw_block ?_ | refine pw_skip ?_ | refine pw_ret ?_ | refine pw_exit ?_ | refine q3 ?_ | refine q4 ?_ | refine q5 ?_ | refine q6 ?_ | refine q7 ?_ | refine q8 ?_ | refine q17 (fun h => ?_) (fun h => ?_) | refine q18 (fun h => ?_) (fun h => ?_) | refine q9 ?_ | refine q10 ?_ | refine q11 ?_ | refine q12 ?_ | refine q13 ?_ | refine q14 ?_ | refine q15 ?_ | refine q16 (fun h => ?_) (fun h => ?_) | fail)
  refine pw_loop (ι := Nat) (ok := fun i => i ≤ l.length ∧ memS (l.take i) s = false) (L := fun i => [(0, strsP l), (1, strP s), (7, intP (l.map strE).length), (8, intP i)]) (Sx := fun _ => ⟨[], []⟩) (μ := fun i => l.length - i) 0 ⟨Nat.zero_le _, by simp [memS]⟩ (by repeat (first | exact frle_nil | refine frle_cons rfl ?_)) rfl ?_
  rintro i ⟨hi, hm⟩
  repeat' (first | refine q1 ?_ | refine q2 ?_ | refine wk_nil ?_ | refine wa_nil ?_ | refine pw_seq ?_ | refine pw_region ?_ | refine pw_block ?_ | refine pw_skip ?_ | refine pw_ret ?_ | refine pw_exit ?_ | refine q3 ?_ | refine q4 ?_ | refine q5 ?_ | refine q6 ?_ | refine q7 ?_ | refine q8 ?_ | refine q17 (fun h => ?_) (fun h => ?_) | refine q18 (fun h => ?_) (fun h => ?_) | refine q9 ?_ | refine q10 ?_ | refine q11 ?_ | refine q12 ?_ | refine q13 ?_ | refine q14 ?_ | refine q15 ?_ | refine q16 (fun h => ?_) (fun h => ?_) | fail)
  · have hlt : i < l.length := by simpa using h
    obtain ⟨x, hx⟩ : ∃ x, l[i]? = some x := ⟨_, List.getElem?_eq_getElem hlt⟩
    refine wix _ rfl rfl rfl rfl rfl (map_get hx) (by omega) ?_
    repeat' (first | refine q1 ?_ | refine q2 ?_ | refine wk_nil ?_ | refine wa_nil ?_ | refine pw_seq ?_ | refine pw_region ?_ | refine pw_block ?_ | refine pw_skip ?_ | refine pw_ret ?_ | refine pw_exit ?_ | refine q3 ?_ | refine q4 ?_ | refine q5 ?_ | refine q6 ?_ | refine q7 ?_ | refine q8 ?_ | refine q17 (fun h => ?_) (fun h => ?_) | refine q18 (fun h => ?_) (fun h => ?_) | refine q9 ?_ | refine q10 ?_ | refine q11 ?_ | refine q12 ?_ | refine q13 ?_ | refine q14 ?_ | refine q15 ?_ | refine q16 (fun h => ?_) (fun h => ?_) | fail)
    · obtain rfl : s = x := by simpa using h
      rw [idxS_hit hx hm]
    · exact ⟨i + 1, ⟨by omega, by rw [memS_take hx hm]; simp at h ⊢; exact fun e => h e.symm⟩, by omega, (by repeat (first | exact frle_nil | refine frle_cons rfl ?_)), rfl⟩
  · rw [List.take_of_length_le (by simp at h; omega)] at hm
    rw [idxS_none hm]
theorem contains_do (l : List ByteArray) (s : ByteArray) : Does 50 [strsP l, strP s] ⟨[], []⟩ (.ret (boolP (memS l s))) ⟨[], []⟩ := by
  refine does_body Tryz.func50 rfl rfl (Nat.le_of_ble_eq_true rfl) rfl (Nat.le_refl _) ?_
  repeat' (first | refine q1 ?_ | refine q2 ?_ | refine wk_nil ?_ | refine wa_nil ?_ | refine pw_seq ?_ | refine pw_region ?_ | refine pw_block ?_ | refine pw_skip ?_ | refine pw_ret ?_ | refine pw_exit ?_ | refine q3 ?_ | refine q4 ?_ | refine q5 ?_ | refine q6 ?_ | refine q7 ?_ | refine q8 ?_ | refine q17 (fun h => ?_) (fun h => ?_) | refine q18 (fun h => ?_) (fun h => ?_) | refine q9 ?_ | refine q10 ?_ | refine q11 ?_ | refine q12 ?_ | refine q13 ?_ | refine q14 ?_ | refine q15 ?_ | refine q16 (fun h => ?_) (fun h => ?_) | fail)
  refine wcp' (index_do l s) rfl rfl rfl rfl rfl (by repeat (first | exact coeL_nil | refine coeL_cons (coe_refl _) ?_)) ?_
  repeat' (first | refine q1 ?_ | refine q2 ?_ | refine wk_nil ?_ | refine wa_nil ?_ | refine pw_seq ?_ | refine pw_region ?_ | refine pw_block ?_ | refine pw_skip ?_ | refine pw_ret ?_ | refine pw_exit ?_ | refine q3 ?_ | refine q4 ?_ | refine q5 ?_ | refine q6 ?_ | refine q7 ?_ | refine q8 ?_ | refine q17 (fun h => ?_) (fun h => ?_) | refine q18 (fun h => ?_) (fun h => ?_) | refine q9 ?_ | refine q10 ?_ | refine q11 ?_ | refine q12 ?_ | refine q13 ?_ | refine q14 ?_ | refine q15 ?_ | refine q16 (fun h => ?_) (fun h => ?_) | fail)
  rw [idxS_mem]
@[reducible] def intsP (l : List Int) : PV := .d (.sl 1 (l.map fun n => [.v (.int .i64 n)]))
theorem typed1_do (o : Int × Int × Int × Int × ByteArray) (t : Int) : Does 102 [intP t, .ptr 0 0] ⟨[opP o], []⟩ (.ret (boolP (!decide (t = o.2.1)))) ⟨[opP o], []⟩ := by
  refine does_body Tryz.func102 rfl rfl (Nat.le_of_ble_eq_true rfl) rfl (Nat.le_refl _) ?_
  repeat' (first | refine q1 ?_ | refine q2 ?_ | refine wk_nil ?_ | refine wa_nil ?_ | refine pw_seq ?_ | refine pw_region ?_ | refine pw_block ?_ | refine pw_skip ?_ | refine pw_ret ?_ | refine pw_exit ?_ | refine q3 ?_ | refine q4 ?_ | refine q5 ?_ | refine q6 ?_ | refine q7 ?_ | refine q8 ?_ | refine q17 (fun h => ?_) (fun h => ?_) | refine q18 (fun h => ?_) (fun h => ?_) | refine q9 ?_ | refine q10 ?_ | refine q11 ?_ | refine q12 ?_ | refine q13 ?_ | refine q14 ?_ | refine q15 ?_ | refine q16 (fun h => ?_) (fun h => ?_) | fail)
  rfl
def idxN (l : List Int) (n : Int) : Int := match l.findIdx? (fun t => !decide (t = n)) with | some i => i | none => -1
theorem findIdx_take {α : Type} {p : α → Bool} {l : List α} {i : Nat} {x : α} (hx : l[i]? = some x) (hm : (l.take i).any p = false) (hp : p x = true) : l.findIdx? p = some i := by
  rw [List.findIdx?_eq_some_iff_getElem]
  obtain ⟨hlt, rfl⟩ := List.getElem?_eq_some_iff.1 hx
  refine ⟨hlt, hp, fun j hj => ?_⟩
  rw [List.any_eq_false] at hm
  exact hm _ (List.mem_take_iff_getElem.2 ⟨j, by omega, rfl⟩)
theorem any_take {α : Type} {p : α → Bool} {l : List α} {i : Nat} {x : α} (hx : l[i]? = some x) (hm : (l.take i).any p = false) (hp : p x = false) : (l.take (i + 1)).any p = false := by
  obtain ⟨hlt, rfl⟩ := List.getElem?_eq_some_iff.1 hx
  rw [List.take_succ_eq_append_getElem hlt, List.any_append, hm]; simp [hp]
theorem indexFunc_do (o : Int × Int × Int × Int × ByteArray) (l : List Int) : Does 145 [intsP l, .fn 102 [.ptr 0 0]] ⟨[opP o], []⟩ (.ret (intP (idxN l o.2.1))) ⟨[opP o], []⟩ := by
  refine does_bodyf Tryz.func145 rfl rfl (Nat.le_of_ble_eq_true rfl) rfl (Nat.le_refl _) ?_
  intro hf
  have hl : l.length ≤ 9223372036854775807 := by have := hf.1; simpa [fitP] using this
  repeat' (first | refine q1 ?_ | refine q2 ?_ | refine wk_nil ?_ | refine wa_nil ?_ | refine pw_seq ?_ | refine pw_region ?_ | refine pw_block ?_ | refine pw_skip ?_ | refine pw_ret ?_ | refine pw_exit ?_ | refine q3 ?_ | refine q4 ?_ | refine q5 ?_ | refine q6 ?_ | refine q7 ?_ | refine q8 ?_ | refine q17 (fun h => ?_) (fun h => ?_) | refine q18 (fun h => ?_) (fun h => ?_) | refine q9 ?_ | refine q10 ?_ | refine q11 ?_ | refine q12 ?_ | refine q13 ?_ | refine q14 ?_ | refine q15 ?_ | refine q16 (fun h => ?_) (fun h => ?_) | fail)
  refine pw_loop (ι := Nat) (ok := fun i => i ≤ l.length ∧ (l.take i).any (fun t => !decide (t = o.2.1)) = false) (L := fun i => [(0, intsP l), (1, .fn 102 [.ptr 0 0]), (7, intP (l.map fun n => [DV.v (.int .i64 n)]).length), (8, intP i)]) (Sx := fun _ => ⟨[opP o], []⟩) (μ := fun i => l.length - i) 0 ⟨Nat.zero_le _, by simp⟩ (by repeat (first | exact frle_nil | refine frle_cons rfl ?_)) rfl ?_
  rintro i ⟨hi, hm⟩
  repeat' (first | refine q1 ?_ | refine q2 ?_ | refine wk_nil ?_ | refine wa_nil ?_ | refine pw_seq ?_ | refine pw_region ?_ | refine pw_block ?_ | refine pw_skip ?_ | refine pw_ret ?_ | refine pw_exit ?_ | refine q3 ?_ | refine q4 ?_ | refine q5 ?_ | refine q6 ?_ | refine q7 ?_ | refine q8 ?_ | refine q17 (fun h => ?_) (fun h => ?_) | refine q18 (fun h => ?_) (fun h => ?_) | refine q9 ?_ | refine q10 ?_ | refine q11 ?_ | refine q12 ?_ | refine q13 ?_ | refine q14 ?_ | refine q15 ?_ | refine q16 (fun h => ?_) (fun h => ?_) | fail)
  · have hlt : i < l.length := by simpa using h
    obtain ⟨x, hx⟩ : ∃ x, l[i]? = some x := ⟨_, List.getElem?_eq_getElem hlt⟩
    refine wix _ rfl rfl rfl rfl rfl (map_get hx) (by omega) ?_
    repeat' (first | refine q1 ?_ | refine q2 ?_ | refine wk_nil ?_ | refine wa_nil ?_ | refine pw_seq ?_ | refine pw_region ?_ | refine pw_block ?_ | refine pw_skip ?_ | refine pw_ret ?_ | refine pw_exit ?_ | refine q3 ?_ | refine q4 ?_ | refine q5 ?_ | refine q6 ?_ | refine q7 ?_ | refine q8 ?_ | refine q17 (fun h => ?_) (fun h => ?_) | refine q18 (fun h => ?_) (fun h => ?_) | refine q9 ?_ | refine q10 ?_ | refine q11 ?_ | refine q12 ?_ | refine q13 ?_ | refine q14 ?_ | refine q15 ?_ | refine q16 (fun h => ?_) (fun h => ?_) | fail)
    refine wcb (typed1_do o x) rfl rfl rfl rfl rfl rfl rfl rfl (by repeat (first | exact coeL_nil | refine coeL_cons (coe_refl _) ?_)) rfl ?_
    repeat' (first | refine q1 ?_ | refine q2 ?_ | refine wk_nil ?_ | refine wa_nil ?_ | refine pw_seq ?_ | refine pw_region ?_ | refine pw_block ?_ | refine pw_skip ?_ | refine pw_ret ?_ | refine pw_exit ?_ | refine q3 ?_ | refine q4 ?_ | refine q5 ?_ | refine q6 ?_ | refine q7 ?_ | refine q8 ?_ | refine q17 (fun h => ?_) (fun h => ?_) | refine q18 (fun h => ?_) (fun h => ?_) | refine q9 ?_ | refine q10 ?_ | refine q11 ?_ | refine q12 ?_ | refine q13 ?_ | refine q14 ?_ | refine q15 ?_ | refine q16 (fun h => ?_) (fun h => ?_) | fail)
    · rw [show idxN l o.2.1 = i from by unfold idxN; rw [findIdx_take hx hm h]]
    · exact ⟨i + 1, ⟨by omega, any_take hx hm h⟩, by omega, (by repeat (first | exact frle_nil | refine frle_cons rfl ?_)), rfl⟩
  · rw [List.take_of_length_le (by simp at h; omega)] at hm
    rw [show idxN l o.2.1 = -1 from by unfold idxN; rw [List.findIdx?_eq_none_iff.2 (by rw [List.any_eq_false] at hm; intro x hx; simpa using hm x hx)]]
theorem containsFunc_do (o : Int × Int × Int × Int × ByteArray) (l : List Int) : Does 101 [intsP l, .fn 102 [.ptr 0 0]] ⟨[opP o], []⟩ (.ret (boolP (l.any fun t => !decide (t = o.2.1)))) ⟨[opP o], []⟩ := by
  refine does_body Tryz.func101 rfl rfl (Nat.le_of_ble_eq_true rfl) rfl (Nat.le_refl _) ?_
  repeat' (first | refine q1 ?_ | refine q2 ?_ | refine wk_nil ?_ | refine wa_nil ?_ | refine pw_seq ?_ | refine pw_region ?_ | refine pw_block ?_ | refine pw_skip ?_ | refine pw_ret ?_ | refine pw_exit ?_ | refine q3 ?_ | refine q4 ?_ | refine q5 ?_ | refine q6 ?_ | refine q7 ?_ | refine q8 ?_ | refine q17 (fun h => ?_) (fun h => ?_) | refine q18 (fun h => ?_) (fun h => ?_) | refine q9 ?_ | refine q10 ?_ | refine q11 ?_ | refine q12 ?_ | refine q13 ?_ | refine q14 ?_ | refine q15 ?_ | refine q16 (fun h => ?_) (fun h => ?_) | fail)
  refine wcb (indexFunc_do o l) rfl rfl rfl rfl rfl rfl rfl rfl (by repeat (first | exact coeL_nil | refine coeL_cons (coe_refl _) ?_)) rfl ?_
  repeat' (first | refine q1 ?_ | refine q2 ?_ | refine wk_nil ?_ | refine wa_nil ?_ | refine pw_seq ?_ | refine pw_region ?_ | refine pw_block ?_ | refine pw_skip ?_ | refine pw_ret ?_ | refine pw_exit ?_ | refine q3 ?_ | refine q4 ?_ | refine q5 ?_ | refine q6 ?_ | refine q7 ?_ | refine q8 ?_ | refine q17 (fun h => ?_) (fun h => ?_) | refine q18 (fun h => ?_) (fun h => ?_) | refine q9 ?_ | refine q10 ?_ | refine q11 ?_ | refine q12 ?_ | refine q13 ?_ | refine q14 ?_ | refine q15 ?_ | refine q16 (fun h => ?_) (fun h => ?_) | fail)
  congr 4
  unfold idxN
  cases e : l.findIdx? (fun t => !decide (t = o.2.1)) with
  | none =>
    rw [List.findIdx?_eq_none_iff] at e
    symm; simp only [Int.reduceNeg, Int.reduceLE, decide_false]
    rw [List.any_eq_false]; intro x hx; rw [e x hx]; simp
  | some i =>
    rw [List.findIdx?_eq_some_iff_getElem] at e
    obtain ⟨hlt, h1, _⟩ := e
    have : (0 : Int) ≤ (i : Int) := by omega
    simp only [this, decide_true]
    exact (List.any_eq_true.2 ⟨_, List.getElem_mem hlt, h1⟩).symm
end Go.Proofs.YtiledamgmppcmaaGreatDoor
/-! ExM -/
namespace Go.Proofs.YtiledamgmppcmaaGreatDoor
open Go.RowKit
theorem ints_take {l : List Int} {i : Nat} {n : Int} (h : l[i]? = some n) : (l.take i).map (fun n => [DV.v (.int .i64 n)]) ++ [[.v (.int .i64 n)]] = (l.take (i + 1)).map (fun n => [DV.v (.int .i64 n)]) := by
  obtain ⟨hlt, rfl⟩ := List.getElem?_eq_some_iff.1 h
  rw [List.take_succ_eq_append_getElem hlt, List.map_append]; rfl
theorem fits_known {x : Ex} (h : x.fits = true) : 1 ≤ x.op ∧ x.op ≤ 19 := by
  have := (fits_args h).1
  unfold arityZ at this
  repeat' split at this
  all_goals omega
theorem opZ_want {op : Int} (h1 : 1 ≤ op) (h2 : op ≤ 19) (h : op ≠ 19) : (opZ op).2.1 = wantZ op ∨ (arityZ op = 0) := by
  rcases opCases h1 h2 with rfl | rfl | rfl | rfl | rfl | rfl | rfl | rfl | rfl | rfl | rfl | rfl | rfl | rfl | rfl | rfl | rfl | rfl | rfl <;> first | exact .inl rfl | exact .inr rfl | exact absurd rfl h
theorem opZ_is {op : Int} (h1 : 1 ≤ op) (h2 : op ≤ 19) (h : op ≠ 19) : (opZ op).2.2.1 = isZ op := by
  rcases opCases h1 h2 with rfl | rfl | rfl | rfl | rfl | rfl | rfl | rfl | rfl | rfl | rfl | rfl | rfl | rfl | rfl | rfl | rfl | rfl | rfl <;> first | rfl | exact absurd rfl h
theorem any_not_all (l : List Int) (n : Int) : l.any (fun t => !decide (t = n)) = !l.all (· == n) := by
  induction l with
  | nil => rfl
  | cons a r ih => simp only [ih, List.any_cons, List.all_cons]; cases (r.all fun x => x == n) <;> by_cases h : a = n <;> simp [h]
theorem kindXs_length (vars : List ByteArray) (l : List Ex) : (kindXs vars l).length = l.length := by rw [kindXs_map]; simp
theorem any_want {vars : List ByteArray} {x : Ex} (h : x.fits = true) (h19 : x.op ≠ 19) : (kindXs vars x.args).any (fun t => !decide (t = (opZ x.op).2.1)) = !(kindXs vars x.args).all (· == wantZ x.op) := by
  have hk := fits_known h
  rcases opZ_want hk.1 hk.2 h19 with e | e
  · rw [e, any_not_all]
  · have hl := (fits_args h).1
    rw [e] at hl
    have : x.args = [] := List.eq_nil_of_length_eq_zero (by omega)
    rw [this]; rfl
theorem loop_end {l : List Ex} {i : Nat} (hi : i ≤ l.length) (h : decide ((i : Int) < ((exDs l).length : Int)) = false) : i = l.length := by
  rw [exDs_length] at h; simp at h; omega
set_option maxHeartbeats 1000000 in
theorem typed_do (vars : List ByteArray) : ∀ (n : Nat) (x : Ex), x.hgt ≤ n → x.fits = true → Does 55 [exP x, strsP vars] ⟨[], []⟩ (.ret (intP (kindX vars x))) ⟨[], []⟩ := by
  intro n
  induction n with
  | zero => intro a h; cases a; simp [Ex.hgt] at h
  | succ n ih =>
    intro x hn hx
    refine does_bodyf Tryz.func55 rfl rfl (Nat.le_of_ble_eq_true rfl) rfl (Nat.le_refl _) ?_
    intro hf
    have hfit : x.args.length ≤ 9223372036854775807 := by rw [← exDs_length]; exact hf.1.2.2.2.1
    have hk := fits_known hx
    have hb : knownB x.op = true := by simp [knownB, hk]
    have hsz : x.args.length ≤ 3 := by
      have := (fits_args hx).1
      unfold arityZ at this
      repeat' split at this
      all_goals omega
    repeat' (first | refine q1 ?_ | refine q2 ?_ | refine wk_nil ?_ | refine wa_nil ?_ | refine pw_seq ?_ | refine pw_region ?_ | refine pw_block ?_ | refine pw_skip ?_ | refine pw_ret ?_ | refine pw_exit ?_ | refine q3 ?_ | refine q4 ?_ | refine q5 ?_ | refine q6 ?_ | refine q7 ?_ | refine q8 ?_ | refine q17 (fun h => ?_) (fun h => ?_) | refine q18 (fun h => ?_) (fun h => ?_) | refine q9 ?_ | refine q10 ?_ | refine q11 ?_ | refine q12 ?_ | refine q13 ?_ | refine q14 ?_ | refine q15 ?_ | refine q16 (fun h => ?_) (fun h => ?_) | fail)
    have hd := known_do x.op
    rw [hb] at hd
    refine wcp' hd rfl rfl rfl rfl rfl (by repeat (first | exact coeL_nil | refine coeL_cons (coe_refl _) ?_)) ?_
    repeat' (first | refine q1 ?_ | refine q2 ?_ | refine wk_nil ?_ | refine wa_nil ?_ | refine pw_seq ?_ | refine pw_region ?_ | refine pw_block ?_ | refine pw_skip ?_ | refine pw_ret ?_ | refine pw_exit ?_ | refine q3 ?_ | refine q4 ?_ | refine q5 ?_ | refine q6 ?_ | refine q7 ?_ | refine q8 ?_ | refine q17 (fun h => ?_) (fun h => ?_) | refine q18 (fun h => ?_) (fun h => ?_) | refine q9 ?_ | refine q10 ?_ | refine q11 ?_ | refine q12 ?_ | refine q13 ?_ | refine q14 ?_ | refine q15 ?_ | refine q16 (fun h => ?_) (fun h => ?_) | fail)
    refine pw_mint 7 1 3 rfl ?_
    refine pw_loopC (ι := Nat) (ok := fun i => i ≤ x.args.length) (L := fun i => [(1, strsP vars), (2, .ptr 0 0), (5, .ptr 1 0), (7, .hd 0 i), (17, .d (.sl 4 (exDs x.args))), (18, intP (exDs x.args).length), (19, intP i)])
      (Sx := fun i => ⟨[(exP x).parts, opP (opZ x.op)], [⟨i, 1, ((kindXs vars x.args).take i).map (fun n => [.v (.int .i64 n)]), 3⟩]⟩) (μ := fun i => x.args.length - i) 0 (Nat.zero_le _) (by repeat (first | exact frle_nil | refine frle_cons rfl ?_)) rfl ?_
    rintro i hi
    repeat' (first | refine q1 ?_ | refine q2 ?_ | refine wk_nil ?_ | refine wa_nil ?_ | refine pw_seq ?_ | refine pw_region ?_ | refine pw_block ?_ | refine pw_skip ?_ | refine pw_ret ?_ | refine pw_exit ?_ | refine q3 ?_ | refine q4 ?_ | refine q5 ?_ | refine q6 ?_ | refine q7 ?_ | refine q8 ?_ | refine q17 (fun h => ?_) (fun h => ?_) | refine q18 (fun h => ?_) (fun h => ?_) | refine q9 ?_ | refine q10 ?_ | refine q11 ?_ | refine q12 ?_ | refine q13 ?_ | refine q14 ?_ | refine q15 ?_ | refine q16 (fun h => ?_) (fun h => ?_) | fail)
    · have hlt : i < x.args.length := by rw [exDs_length] at h; simpa using h
      obtain ⟨y, hy⟩ : ∃ y, x.args[i]? = some y := ⟨_, List.getElem?_eq_getElem hlt⟩
      refine wix _ rfl rfl rfl rfl rfl (exDs_get hy) (by omega) ?_
      repeat' (first | refine q1 ?_ | refine q2 ?_ | refine wk_nil ?_ | refine wa_nil ?_ | refine pw_seq ?_ | refine pw_region ?_ | refine pw_block ?_ | refine pw_skip ?_ | refine pw_ret ?_ | refine pw_exit ?_ | refine q3 ?_ | refine q4 ?_ | refine q5 ?_ | refine q6 ?_ | refine q7 ?_ | refine q8 ?_ | refine q17 (fun h => ?_) (fun h => ?_) | refine q18 (fun h => ?_) (fun h => ?_) | refine q9 ?_ | refine q10 ?_ | refine q11 ?_ | refine q12 ?_ | refine q13 ?_ | refine q14 ?_ | refine q15 ?_ | refine q16 (fun h => ?_) (fun h => ?_) | fail)
      have hy2 := List.mem_of_getElem? hy
      have hy3 : (kindXs vars x.args)[i]? = some (kindX vars y) := by rw [kindXs_map]; simp [hy]
      refine wcp' (ih y (by have := hgt_arg hy2; omega) (fits_arg hx hy2)) rfl rfl rfl rfl rfl (by repeat (first | exact coeL_nil | refine coeL_cons (coe_refl _) ?_)) ?_
      repeat' (first | refine q1 ?_ | refine q2 ?_ | refine wk_nil ?_ | refine wa_nil ?_ | refine pw_seq ?_ | refine pw_region ?_ | refine pw_block ?_ | refine pw_skip ?_ | refine pw_ret ?_ | refine pw_exit ?_ | refine q3 ?_ | refine q4 ?_ | refine q5 ?_ | refine q6 ?_ | refine q7 ?_ | refine q8 ?_ | refine q17 (fun h => ?_) (fun h => ?_) | refine q18 (fun h => ?_) (fun h => ?_) | refine q9 ?_ | refine q10 ?_ | refine q11 ?_ | refine q12 ?_ | refine q13 ?_ | refine q14 ?_ | refine q15 ?_ | refine q16 (fun h => ?_) (fun h => ?_) | fail)
      refine wapp (news := [[.v (.int .i64 (kindX vars y))]]) (S' := ⟨[(exP x).parts, opP (opZ x.op), (exP y).parts], [⟨i + 1, 1, ((kindXs vars x.args).take (i + 1)).map (fun n => [.v (.int .i64 n)]), 3⟩]⟩) rfl rfl rfl rfl rfl rfl ?_ ?_ ?_ ?_
      · simp [kindXs_length]; show _ * 8 ≤ _; omega
      · simp [kindXs_length]; omega
      · rw [← ints_take hy3]; rfl
      repeat' (first | refine q1 ?_ | refine q2 ?_ | refine wk_nil ?_ | refine wa_nil ?_ | refine pw_seq ?_ | refine pw_region ?_ | refine pw_block ?_ | refine pw_skip ?_ | refine pw_ret ?_ | refine pw_exit ?_ | refine q3 ?_ | refine q4 ?_ | refine q5 ?_ | refine q6 ?_ | refine q7 ?_ | refine q8 ?_ | refine q17 (fun h => ?_) (fun h => ?_) | refine q18 (fun h => ?_) (fun h => ?_) | refine q9 ?_ | refine q10 ?_ | refine q11 ?_ | refine q12 ?_ | refine q13 ?_ | refine q14 ?_ | refine q15 ?_ | refine q16 (fun h => ?_) (fun h => ?_) | fail)
      exact ⟨i + 1, by omega, by omega, (by repeat (first | exact frle_nil | refine frle_cons rfl ?_)), rfl, rfl, rfl, Nat.le_refl _, Nat.le_refl _⟩
    · rename_i g
      have hi' := loop_end hi g
      subst hi'
      rw [List.take_of_length_le (by rw [kindXs_length]; exact Nat.le_refl _)]
      have h19 : x.op = 19 := by simpa using h
      obtain ⟨a, b, c, he⟩ := args3 hx h19
      have hks : kindXs vars x.args = [kindX vars a, kindX vars b, kindX vars c] := by rw [he]; rfl
      have hkx : kindX vars x = if kindX vars a ≠ 2 ∨ kindX vars b ≠ kindX vars c then 0 else kindX vars b := by rw [kindX_eq vars x, if_neg (by omega), if_pos h19, hks]
      rw [hks]
      refine wixn [.v (.int .i64 (kindX vars a))] rfl rfl rfl (toS_hd rfl) rfl rfl (by omega) ?_
      repeat' (first | refine q1 ?_ | refine q2 ?_ | refine wk_nil ?_ | refine wa_nil ?_ | refine pw_seq ?_ | refine pw_region ?_ | refine pw_block ?_ | refine pw_skip ?_ | refine pw_ret ?_ | refine pw_exit ?_ | refine q3 ?_ | refine q4 ?_ | refine q5 ?_ | refine q6 ?_ | refine q7 ?_ | refine q8 ?_ | refine q17 (fun h => ?_) (fun h => ?_) | refine q18 (fun h => ?_) (fun h => ?_) | refine q9 ?_ | refine q10 ?_ | refine q11 ?_ | refine q12 ?_ | refine q13 ?_ | refine q14 ?_ | refine q15 ?_ | refine q16 (fun h => ?_) (fun h => ?_) | fail)
      · rw [hkx, if_pos (by simp_all)]
      refine wixn [.v (.int .i64 (kindX vars b))] rfl rfl rfl (toS_hd rfl) rfl rfl (by omega) ?_
      repeat' (first | refine q1 ?_ | refine q2 ?_ | refine wk_nil ?_ | refine wa_nil ?_ | refine pw_seq ?_ | refine pw_region ?_ | refine pw_block ?_ | refine pw_skip ?_ | refine pw_ret ?_ | refine pw_exit ?_ | refine q3 ?_ | refine q4 ?_ | refine q5 ?_ | refine q6 ?_ | refine q7 ?_ | refine q8 ?_ | refine q17 (fun h => ?_) (fun h => ?_) | refine q18 (fun h => ?_) (fun h => ?_) | refine q9 ?_ | refine q10 ?_ | refine q11 ?_ | refine q12 ?_ | refine q13 ?_ | refine q14 ?_ | refine q15 ?_ | refine q16 (fun h => ?_) (fun h => ?_) | fail)
      refine wixn [.v (.int .i64 (kindX vars c))] rfl rfl rfl (toS_hd rfl) rfl rfl (by omega) ?_
      repeat' (first | refine q1 ?_ | refine q2 ?_ | refine wk_nil ?_ | refine wa_nil ?_ | refine pw_seq ?_ | refine pw_region ?_ | refine pw_block ?_ | refine pw_skip ?_ | refine pw_ret ?_ | refine pw_exit ?_ | refine q3 ?_ | refine q4 ?_ | refine q5 ?_ | refine q6 ?_ | refine q7 ?_ | refine q8 ?_ | refine q17 (fun h => ?_) (fun h => ?_) | refine q18 (fun h => ?_) (fun h => ?_) | refine q9 ?_ | refine q10 ?_ | refine q11 ?_ | refine q12 ?_ | refine q13 ?_ | refine q14 ?_ | refine q15 ?_ | refine q16 (fun h => ?_) (fun h => ?_) | fail)
      · rw [hkx, if_pos (by simp_all)]
      refine wix [.v (.int .i64 (kindX vars b))] rfl rfl rfl (toS_hd rfl) rfl rfl (by omega) ?_
      repeat' (first | refine q1 ?_ | refine q2 ?_ | refine wk_nil ?_ | refine wa_nil ?_ | refine pw_seq ?_ | refine pw_region ?_ | refine pw_block ?_ | refine pw_skip ?_ | refine pw_ret ?_ | refine pw_exit ?_ | refine q3 ?_ | refine q4 ?_ | refine q5 ?_ | refine q6 ?_ | refine q7 ?_ | refine q8 ?_ | refine q17 (fun h => ?_) (fun h => ?_) | refine q18 (fun h => ?_) (fun h => ?_) | refine q9 ?_ | refine q10 ?_ | refine q11 ?_ | refine q12 ?_ | refine q13 ?_ | refine q14 ?_ | refine q15 ?_ | refine q16 (fun h => ?_) (fun h => ?_) | fail)
      rw [hkx, if_neg (by simp_all)]
    · rename_i g g2
      have hi' := loop_end hi g
      subst hi'
      rw [List.take_of_length_le (by rw [kindXs_length]; exact Nat.le_refl _)]
      have h2 : x.op = 2 := by simpa using h
      refine wcp' (contains_do vars x.name) rfl rfl rfl rfl rfl (by repeat (first | exact coeL_nil | refine coeL_cons (coe_refl _) ?_)) ?_
      repeat' (first | refine q1 ?_ | refine q2 ?_ | refine wk_nil ?_ | refine wa_nil ?_ | refine pw_seq ?_ | refine pw_region ?_ | refine pw_block ?_ | refine pw_skip ?_ | refine pw_ret ?_ | refine pw_exit ?_ | refine q3 ?_ | refine q4 ?_ | refine q5 ?_ | refine q6 ?_ | refine q7 ?_ | refine q8 ?_ | refine q17 (fun h => ?_) (fun h => ?_) | refine q18 (fun h => ?_) (fun h => ?_) | refine q9 ?_ | refine q10 ?_ | refine q11 ?_ | refine q12 ?_ | refine q13 ?_ | refine q14 ?_ | refine q15 ?_ | refine q16 (fun h => ?_) (fun h => ?_) | fail)
      · rw [kindX_eq vars x, if_pos ⟨h2, by simpa using h⟩]
      have h19 : x.op ≠ 19 := by omega
      have hm : ¬ (x.op = 2 ∧ memS vars x.name = false) := fun e => by simp [e.2] at h
      refine wcb (id := 1) (containsFunc_do (opZ x.op) (kindXs vars x.args)) rfl rfl rfl rfl rfl rfl rfl rfl (coeL_cons (coe_s (toS_hd rfl)) (coeL_cons (coe_refl _) coeL_nil)) rfl ?_
      repeat' (first | refine q1 ?_ | refine q2 ?_ | refine wk_nil ?_ | refine wa_nil ?_ | refine pw_seq ?_ | refine pw_region ?_ | refine pw_block ?_ | refine pw_skip ?_ | refine pw_ret ?_ | refine pw_exit ?_ | refine q3 ?_ | refine q4 ?_ | refine q5 ?_ | refine q6 ?_ | refine q7 ?_ | refine q8 ?_ | refine q17 (fun h => ?_) (fun h => ?_) | refine q18 (fun h => ?_) (fun h => ?_) | refine q9 ?_ | refine q10 ?_ | refine q11 ?_ | refine q12 ?_ | refine q13 ?_ | refine q14 ?_ | refine q15 ?_ | refine q16 (fun h => ?_) (fun h => ?_) | fail)
      · rw [any_want hx h19] at h
        rw [kindX_eq vars x, if_neg hm, if_neg h19, if_neg (by simp_all)]
      · rw [any_want hx h19] at h
        rw [kindX_eq vars x, if_neg hm, if_neg h19, if_pos (by simpa using h), ← opZ_is hk.1 hk.2 h19]
    · rename_i g g2
      have hi' := loop_end hi g
      subst hi'
      rw [List.take_of_length_le (by rw [kindXs_length]; exact Nat.le_refl _)]
      have h19 : x.op ≠ 19 := by simpa using g2
      have hm : ¬ (x.op = 2 ∧ memS vars x.name = false) := fun e => by simp [e.1] at h
      refine wcb (id := 1) (containsFunc_do (opZ x.op) (kindXs vars x.args)) rfl rfl rfl rfl rfl rfl rfl rfl (coeL_cons (coe_s (toS_hd rfl)) (coeL_cons (coe_refl _) coeL_nil)) rfl ?_
      repeat' (first | refine q1 ?_ | refine q2 ?_ | refine wk_nil ?_ | refine wa_nil ?_ | refine pw_seq ?_ | refine pw_region ?_ | refine pw_block ?_ | refine pw_skip ?_ | refine pw_ret ?_ | refine pw_exit ?_ | refine q3 ?_ | refine q4 ?_ | refine q5 ?_ | refine q6 ?_ | refine q7 ?_ | refine q8 ?_ | refine q17 (fun h => ?_) (fun h => ?_) | refine q18 (fun h => ?_) (fun h => ?_) | refine q9 ?_ | refine q10 ?_ | refine q11 ?_ | refine q12 ?_ | refine q13 ?_ | refine q14 ?_ | refine q15 ?_ | refine q16 (fun h => ?_) (fun h => ?_) | fail)
      · rw [any_want hx h19] at h
        rw [kindX_eq vars x, if_neg hm, if_neg h19, if_neg (by simp_all)]
      · rw [any_want hx h19] at h
        rw [kindX_eq vars x, if_neg hm, if_neg h19, if_pos (by simpa using h), ← opZ_is hk.1 hk.2 h19]
end Go.Proofs.YtiledamgmppcmaaGreatDoor
/-! LexM -/
namespace Go.Proofs.YtiledamgmppcmaaGreatDoor
open Go.RowKit

def memB (zs : List ByteArray) (x : ByteArray) : Bool := zs.any fun y => x.toList == y.toList

theorem memB_hit (zs : List ByteArray) (x : ByteArray) (k : Nat) (hk : k < zs.length) (h : x.toList = (zs[k]?.getD ByteArray.empty).toList) : memB zs x = true := by
  unfold memB
  rw [List.any_eq_true]
  rw [List.getElem?_eq_getElem hk] at h
  exact ⟨zs[k], List.getElem_mem hk, by simpa using h⟩

theorem memB_miss (zs : List ByteArray) (x : ByteArray) (k : Nat) (hk : k < zs.length) (h : memB (zs.take k) x = false) (h1 : ¬ x.toList = (zs[k]?.getD ByteArray.empty).toList) : memB (zs.take (k + 1)) x = false := by
  rw [List.getElem?_eq_getElem hk] at h1
  unfold memB at *
  rw [List.take_succ_eq_append_getElem hk, List.any_append, h]
  simpa using h1

/-- The ending returns some int with a property. -/
def IntIs (P : Int → Prop) (e : Ending) : Prop := ∃ n : Int, e = .returned (.int .i64 n) ∧ P n

def wordBytes : List (List UInt8) := [[109, 111, 100, 117, 108, 101], [101, 110, 100], [118, 97, 114], [109, 105, 110], [119, 104, 101, 110], [103, 97, 105, 110], [108, 97, 98, 101, 108], [115, 116, 97, 121], [97, 110, 100], [111, 114], [110, 111, 116], [105, 102], [116, 104, 101, 110], [101, 108, 115, 101], [116, 114, 117, 101], [102, 97, 108, 115, 101], [109, 97, 120], [118, 97, 108, 117, 101], [114, 101, 97, 99, 104], [117, 110, 116, 105, 108], [119, 105, 116, 104, 105, 110], [116, 111, 116, 97, 108], [109, 101, 97, 110]]
def signBytes : List (List UInt8) := [[40], [41], [91], [93], [58], [59], [44], [124], [43], [45], [42], [47], [61], [39], [60], [62], [33, 61], [60, 61], [62, 61], [45, 62], [46, 46]]
def wordList : List ByteArray := wordBytes.map fun l => ⟨l.toArray⟩
def signList : List ByteArray := signBytes.map fun l => ⟨l.toArray⟩
def wordCells : Array Value := (wordList.map Value.string).toArray
def signCells : Array Value := (signList.map Value.string).toArray

def letterB (c : UInt8) : Bool := decide (97 ≤ (c.toNat : Int)) && decide ((c.toNat : Int) ≤ 122)
def digitB (c : UInt8) : Bool := decide (48 ≤ (c.toNat : Int)) && decide ((c.toNat : Int) ≤ 57)
def underB (c : UInt8) : Bool := decide (95 ≤ (c.toNat : Int)) && decide ((c.toNat : Int) ≤ 95)
def partB (c : UInt8) : Bool := letterB c || digitB c || underB c
def wordB (l : List UInt8) : Bool := l.all partB && (l.head?.map letterB).getD false

theorem letterB_of {c : UInt8} (h : 97 ≤ (c.toNat : Int) ∧ (c.toNat : Int) ≤ 122) : letterB c = true := by simp [letterB, h.1, h.2]
theorem letterB_not {c : UInt8} (h : (c.toNat : Int) < 97 ∨ 122 < (c.toNat : Int)) : letterB c = false := by simp [letterB]; omega
theorem digitB_of {c : UInt8} (h : 48 ≤ (c.toNat : Int) ∧ (c.toNat : Int) ≤ 57) : digitB c = true := by simp [digitB, h.1, h.2]
theorem digitB_not {c : UInt8} (h : (c.toNat : Int) < 48 ∨ 57 < (c.toNat : Int)) : digitB c = false := by simp [digitB]; omega
theorem underB_of {c : UInt8} (h : 95 ≤ (c.toNat : Int) ∧ (c.toNat : Int) ≤ 95) : underB c = true := by simp [underB, h.1, h.2]
theorem underB_not {c : UInt8} (h : (c.toNat : Int) < 95 ∨ 95 < (c.toNat : Int)) : underB c = false := by simp [underB]; omega

def memL (zs : List (List UInt8)) (l : List UInt8) : Bool := zs.any fun y => l == y
theorem memB_list (zs : List (List UInt8)) (s : ByteArray) : memB (zs.map fun l => ⟨l.toArray⟩) s = memL zs s.data.toList := by
  unfold memB memL
  rw [List.any_map]
  congr 1
  funext y
  show (s.toList == (ByteArray.mk y.toArray).toList) = _
  rw [ByteArray.toList_eq, ByteArray.toList_eq]
theorem memB_words (s : ByteArray) : memB wordList s = memL wordBytes s.data.toList := memB_list _ _
theorem memB_signs (s : ByteArray) : memB signList s = memL signBytes s.data.toList := memB_list _ _
theorem strCells_at (zs : List ByteArray) (j : Nat) (h : j < zs.length) : ((zs.map Value.string).toArray)[j]? = some (.string (zs.getD j ByteArray.empty)) := by
  simp [h]
theorem wordCells_at (j : Nat) (h : j < 23) : wordCells[j]? = some (.string (wordList.getD j ByteArray.empty)) := by
  exact strCells_at wordList j h
theorem signCells_at (j : Nat) (h : j < 21) : signCells[j]? = some (.string (signList.getD j ByteArray.empty)) := by
  exact strCells_at signList j h

def nameB (l : List UInt8) : Bool := wordB l && decide (l.length ≤ 12) && !memL wordBytes l
def numberB (l : List UInt8) : Bool := l.all digitB && (l == [48] || (!l.isEmpty && l.head? != some 48 && decide (l.length ≤ 4)))
def rightB (kind : Int) (l : List UInt8) : Bool :=
  if kind = 1 then nameB l else if kind = 2 then memL wordBytes l else if kind = 3 then numberB l else if kind = 4 then memL signBytes l else false
def checkE (kind : Int) (l : List UInt8) (at_ : Int) : Int := if at_ < 0 ∨ 20000 ≤ at_ ∨ rightB kind l = false then 340 else 0

end Go.Proofs.YtiledamgmppcmaaGreatDoor
/-! LexA -/
namespace Go.Proofs.YtiledamgmppcmaaGreatDoor
open Go.RowKit

set_option maxHeartbeats 400000 in
theorem has_any (lo hi b : Int) (w : World) :
    Calls Tryz.prog 172 #[.agg #[.int .u8 lo, .int .u8 hi], .int .u8 b] w fun e w' => e = .returned (.bool (decide (lo ≤ b) && decide (b ≤ hi))) ∧ w.alloc (.cells #[.int .u8 lo, .int .u8 hi] 226) = w' := by
  by_cases h1 : lo ≤ b
  · go_enter Tryz.func172, Tryz.ntmps172
    go_wp2
    go_ret
    exact ⟨by simp [h1], rfl⟩
  · go_enter Tryz.func172, Tryz.ntmps172
    go_wp2
    go_ret
    exact ⟨by simp; omega, rfl⟩

theorem words_any (w : World) :
    Calls Tryz.prog 149 #[] w fun e w' => e = .returned (.slice (some ⟨w.heap.size, 0, none⟩) 23 23) ∧ w.alloc (.cells wordCells 9) = w' := by
  go_enter Tryz.func149, Tryz.ntmps149
  go_wp2
  go_ret
  exact ⟨rfl, rfl⟩

theorem signs_any (w : World) :
    Calls Tryz.prog 151 #[] w fun e w' => e = .returned (.slice (some ⟨w.heap.size, 0, none⟩) 21 21) ∧ w.alloc (.cells signCells 9) = w' := by
  go_enter Tryz.func151, Tryz.ntmps151
  go_wp2
  go_ret
  exact ⟨rfl, rfl⟩

def kindCells : Array Value := #[.func (.func 172) #[.agg #[.int .u8 97, .int .u8 122]] #[], .func (.func 172) #[.agg #[.int .u8 48, .int .u8 57]] #[], .func (.func 172) #[.agg #[.int .u8 95, .int .u8 95]] #[]]

theorem kinds_any (w : World) :
    Calls Tryz.prog 130 #[] w fun e w' => e = .returned (.agg kindCells) ∧ w.alloc (.cells kindCells 190) = w' := by
  have hmf : ∀ (fn : Fn) (first cap : Array Value) (w : World), (Instr.makeFunc fn first cap).run Tryz.prog w = .ok (.func fn first cap) w := fun _ _ _ _ => rfl
  go_enter Tryz.func130, Tryz.ntmps130
  go_wp2
  exact bodyPost_ret (v := .agg kindCells) (by simp [results, Tryz.results130, go_sem, kindCells]) rfl ⟨rfl, rfl⟩

set_option maxHeartbeats 400000 in
theorem index_any (b n c : Nat) (zs : List ByteArray) (x : ByteArray) (w : World) (hz : zs.length = n) (hbig : n ≤ 1000000)
    (hc : ∀ j, j < n → w.cell? ⟨b, j, none⟩ = some (.string (zs.getD j ByteArray.empty))) :
    Calls Tryz.prog 97 #[.slice (some ⟨b, 0, none⟩) n c, .string x] w fun e w' => IntIs (fun i => decide (0 ≤ i) = memB zs x) e ∧ w = w' := by
  have HZ := Lib.hid hz
  have hz' : n ≤ zs.length := by omega
  clear hz
  go_enter Tryz.func97, Tryz.ntmps97
  go_wp2
  go_loop [5, 8] (fun _ i => ∃ k : Nat, k ≤ n ∧ i = .int .i64 k ∧ memB (zs.take k) x = false) (fun _ i => n - (intOf i).toNat)
  case atStart => exact ⟨0, Nat.zero_le _, rfl, by simp [memB]⟩
  case round =>
    obtain ⟨k, hk, rfl, hm⟩ := hrel
    have hcell : k < n → w.cell? ⟨b, k, none⟩ = some (.string (zs.getD k ByteArray.empty)) := fun h => hc k h
    have HM := Lib.hid hm
    clear hm hc
    go_wp2
    · rename_i hlt _ _ heq _
      go_ret
      refine ⟨⟨_, rfl, ?_⟩, rfl⟩
      rw [memB_hit zs x k (by omega) (by simpa using heq)]
      simp
    · rename_i hlt hne
      refine ⟨⟨k + 1, by omega, by simp, ?_⟩, by simp [intOf]; omega⟩
      exact memB_miss zs x k (by omega) HM.out (by simpa using hne)
    · rename_i hge _
      go_ret
      refine ⟨⟨_, rfl, ?_⟩, rfl⟩
      have : k = zs.length := by have := HZ.out; omega
      have h := HM.out
      rw [this, List.take_length] at h
      rw [h]; rfl


def KindsAt (w : World) (b : Nat) : Prop := w.cell? ⟨b, 0, none⟩ = some (.func (.func 172) #[.agg #[.int .u8 97, .int .u8 122]] #[]) ∧ w.cell? ⟨b, 1, none⟩ = some (.func (.func 172) #[.agg #[.int .u8 48, .int .u8 57]] #[]) ∧ w.cell? ⟨b, 2, none⟩ = some (.func (.func 172) #[.agg #[.int .u8 95, .int .u8 95]] #[])

theorem has_yes (lo hi b : Int) (w : World) (h : lo ≤ b ∧ b ≤ hi) :
    Calls Tryz.prog 172 #[.agg #[.int .u8 lo, .int .u8 hi], .int .u8 b] w fun e w' => e = .returned (.bool true) ∧ Below w.heap.size w w' :=
  (has_any lo hi b w).mono fun e w' ⟨he, hw⟩ => ⟨by rw [he]; simp [h.1, h.2], by rw [← hw]; exact (Below.refl _ _).alloc (Nat.le_refl _) _⟩
theorem has_no (lo hi b : Int) (w : World) (h : b < lo ∨ hi < b) :
    Calls Tryz.prog 172 #[.agg #[.int .u8 lo, .int .u8 hi], .int .u8 b] w fun e w' => e = .returned (.bool false) ∧ Below w.heap.size w w' :=
  (has_any lo hi b w).mono fun e w' ⟨he, hw⟩ => ⟨by rw [he]; simp; omega, by rw [← hw]; exact (Below.refl _ _).alloc (Nat.le_refl _) _⟩


end Go.Proofs.YtiledamgmppcmaaGreatDoor
/-! LexB -/
namespace Go.Proofs.YtiledamgmppcmaaGreatDoor
open Go.RowKit

theorem kinds_at (w : World) : KindsAt ((w.alloc (.cells kindCells 190)).alloc (.cells kindCells 190)) (w.heap.size + 1) :=
  ⟨(World.cell?_alloc_at (hn := by simp) ..).trans rfl, (World.cell?_alloc_at (hn := by simp) ..).trans rfl, (World.cell?_alloc_at (hn := by simp) ..).trans rfl⟩

set_option maxHeartbeats 1000000 in
theorem word_any (s : ByteArray) (w : World) (hs : s.size ≤ 9223372036854775807) :
    Calls Tryz.prog 148 #[.string s] w fun e w' => e = .returned (.bool (wordB s.data.toList)) ∧ Below w.heap.size w w' := by
  have hks := kinds_at w
  go_enter Tryz.func148, Tryz.ntmps148
  go_wp2_with (go_at_call 130; refine (kinds_any _).mono ?_; rintro e w' ⟨rfl, rfl⟩; unfold kindCells)
  go_loopw [4, 8] (fun _ i wr => ∃ k : Nat, k ≤ s.size ∧ i = .int .i64 k ∧ (s.data.toList.take k).all partB = true ∧ KindsAt wr (w.heap.size + 1) ∧ Below w.heap.size w wr) (fun _ i _ => s.size - (intOf i).toNat)
  case atStart =>
    exact ⟨0, by omega, rfl, by simp, hks, ((Below.refl _ _).alloc (Nat.le_refl _) _).alloc (by simp) _⟩
  case round =>
    obtain ⟨k, hk, rfl, hm, hK, hB⟩ := hrel
    clear hks
    obtain ⟨hK0, hK1, hK2⟩ := hK
    have k0 := later_cell hK0
    have k1 := later_cell hK1
    have k2 := later_cell hK2
    have hBs := hB.size
    have HM := Lib.hid hm
    clear hm
    by_cases hlt : k < s.size
    · have hl : k < s.data.toList.length := by simpa using hlt
      have hcase : (97 ≤ (s[k].toNat : Int) ∧ (s[k].toNat : Int) ≤ 122) ∨ ((s[k].toNat : Int) < 97 ∨ 122 < (s[k].toNat : Int)) := by omega
      have hcase2 : (48 ≤ (s[k].toNat : Int) ∧ (s[k].toNat : Int) ≤ 57) ∨ ((s[k].toNat : Int) < 48 ∨ 57 < (s[k].toNat : Int)) := by omega
      have hcase3 : (95 ≤ (s[k].toNat : Int) ∧ (s[k].toNat : Int) ≤ 95) ∨ ((s[k].toNat : Int) < 95 ∨ 95 < (s[k].toNat : Int)) := by omega
      have HP : Hid ((97 ≤ (s[k].toNat : Int) ∧ (s[k].toNat : Int) ≤ 122) ∨ (48 ≤ (s[k].toNat : Int) ∧ (s[k].toNat : Int) ≤ 57) ∨ (95 ≤ (s[k].toNat : Int) ∧ (s[k].toNat : Int) ≤ 95) → partB s[k] = true) := by
        rintro (h | h | h)
        · simp [partB, letterB_of h]
        · simp [partB, digitB_of h]
        · simp [partB, underB_of h]
      have HN : Hid (((s[k].toNat : Int) < 97 ∨ 122 < (s[k].toNat : Int)) → ((s[k].toNat : Int) < 48 ∨ 57 < (s[k].toNat : Int)) → ((s[k].toNat : Int) < 95 ∨ 95 < (s[k].toNat : Int)) → partB s[k] = false) := by
        intro h1 h2 h3
        simp [partB, letterB_not h1, digitB_not h2, underB_not h3]
      rcases hcase with hc | hc
      case inl =>
        clear hcase2 hcase3
        go_wp2_with fail
        refine wp_region_later (by kernel_rfl) (by kernel_rfl) ?_
        repeat (go_big_quiet_step ((go_at_call 172; first | exact Calls.later_of (has_yes _ _ _ _ (by omega)) | exact Calls.later_of (has_no _ _ _ _ (by omega)))))
        refine wpQuiet_nil ?_
        intro w1 hb1
        go_wp2
        go_roundw
        case rel => exact ⟨k + 1, by omega, by go_num, wb_step hl HM.out (HP.out (by omega)), ⟨below_cell hb1 hK0, below_cell hb1 hK1, below_cell hb1 hK2⟩, hB.trans (hb1.mono hBs)⟩
        case measure => simp [intOf]; omega
      case inr =>
        rcases hcase2 with hd | hd
        case inl =>
          clear hcase3
          go_wp2_with fail
          refine wp_region_later (by kernel_rfl) (by kernel_rfl) ?_
          repeat (go_big_quiet_step ((go_at_call 172; first | exact Calls.later_of (has_yes _ _ _ _ (by omega)) | exact Calls.later_of (has_no _ _ _ _ (by omega)))))
          refine wpQuiet_nil ?_
          intro w1 hb1
          go_wp2
          go_roundw
          case rel => exact ⟨k + 1, by omega, by go_num, wb_step hl HM.out (HP.out (by omega)), ⟨below_cell hb1 hK0, below_cell hb1 hK1, below_cell hb1 hK2⟩, hB.trans (hb1.mono hBs)⟩
          case measure => simp [intOf]; omega
        case inr =>
          rcases hcase3 with hu | hu
          case inl =>
            go_wp2_with fail
            refine wp_region_later (by kernel_rfl) (by kernel_rfl) ?_
            repeat (go_big_quiet_step ((go_at_call 172; first | exact Calls.later_of (has_yes _ _ _ _ (by omega)) | exact Calls.later_of (has_no _ _ _ _ (by omega)))))
            refine wpQuiet_nil ?_
            intro w1 hb1
            go_wp2
            go_roundw
            case rel => exact ⟨k + 1, by omega, by go_num, wb_step hl HM.out (HP.out (by omega)), ⟨below_cell hb1 hK0, below_cell hb1 hK1, below_cell hb1 hK2⟩, hB.trans (hb1.mono hBs)⟩
            case measure => simp [intOf]; omega
          case inr =>
            have HF : Hid (wordB s.data.toList = false) := Lib.hid (by simp [wordB, all_false_at hl (HN.out hc hd hu)])
            go_wp2_with fail
            refine wp_region_later (by kernel_rfl) (by kernel_rfl) ?_
            repeat (go_big_quiet_step ((go_at_call 172; first | exact Calls.later_of (has_yes _ _ _ _ (by omega)) | exact Calls.later_of (has_no _ _ _ _ (by omega)))))
            refine wpQuiet_nil ?_
            intro w1 hb1
            go_wp2
            go_ret
            exact ⟨ret_bool HF.out.symm, hB.trans (hb1.mono hBs)⟩
    · have HA : Hid (s.data.toList.all partB = true) := Lib.hid (take_all (by simp; omega) HM.out)
      by_cases h0 : s.size = 0
      · have hz : s.toList = [] := toList_of_size_zero h0
        have HF : Hid (wordB s.data.toList = false) := Lib.hid (by simp [wordB, ← toList_data, hz])
        go_wp2_with fail
        refine wp_region_later (by kernel_rfl) (by kernel_rfl) ?_
        repeat (go_big_quiet_step (fail))
        refine wpQuiet_nil ?_
        intro w1 hb1
        go_wp2
        go_ret
        exact ⟨ret_bool HF.out.symm, hB.trans (hb1.mono hBs)⟩
      · have hz : s.toList.isEmpty = false := toList_of_size_pos (by omega)
        have hp : 0 < s.size := by omega
        have hcase : (97 ≤ (s[0].toNat : Int) ∧ (s[0].toNat : Int) ≤ 122) ∨ ((s[0].toNat : Int) < 97 ∨ 122 < (s[0].toNat : Int)) := by omega
        have HH : Hid (wordB s.data.toList = letterB s[0]) := Lib.hid (by rw [wordB, HA.out, head_of hp]; simp)
        rcases hcase with hc | hc
        case inl =>
          have HF : Hid (wordB s.data.toList = true) := Lib.hid (HH.out.trans (letterB_of hc))
          go_wp2_with fail
          refine wp_region_later (by kernel_rfl) (by kernel_rfl) ?_
          repeat (go_big_quiet_step ((go_at_call 172; first | exact Calls.later_of (has_yes _ _ _ _ (by omega)) | exact Calls.later_of (has_no _ _ _ _ (by omega)))))
          refine wpQuiet_nil ?_
          intro w1 hb1
          go_wp2
          go_ret
          exact ⟨ret_bool HF.out.symm, hB.trans (hb1.mono hBs)⟩
        case inr =>
          have HF : Hid (wordB s.data.toList = false) := Lib.hid (HH.out.trans (letterB_not hc))
          go_wp2_with fail
          refine wp_region_later (by kernel_rfl) (by kernel_rfl) ?_
          repeat (go_big_quiet_step ((go_at_call 172; first | exact Calls.later_of (has_yes _ _ _ _ (by omega)) | exact Calls.later_of (has_no _ _ _ _ (by omega)))))
          refine wpQuiet_nil ?_
          intro w1 hb1
          go_wp2
          go_ret
          exact ⟨ret_bool HF.out.symm, hB.trans (hb1.mono hBs)⟩
end Go.Proofs.YtiledamgmppcmaaGreatDoor
/-! LexC -/
namespace Go.Proofs.YtiledamgmppcmaaGreatDoor
open Go.RowKit

theorem contains_any (b n c : Nat) (zs : List ByteArray) (x : ByteArray) (w : World) (hz : zs.length = n) (hbig : n ≤ 1000000)
    (hc : ∀ j, j < n → w.cell? ⟨b, j, none⟩ = some (.string (zs.getD j ByteArray.empty))) :
    Calls Tryz.prog 50 #[.slice (some ⟨b, 0, none⟩) n c, .string x] w fun e w' => e = .returned (.bool (memB zs x)) ∧ w = w' := by
  have hi := index_any b n c zs x w hz hbig hc
  have HI := Lib.hid hi
  have HZ := Lib.hid hz
  clear hi hc hz
  go_enter Tryz.func50, Tryz.ntmps50
  go_wp2_with fail
  refine HI.out.mono ?_
  rintro e w' ⟨⟨i, rfl, hi⟩, rfl⟩
  have HH := Lib.hid hi
  clear hi
  go_wp2
  go_ret
  exact ⟨ret_bool HH.out, rfl⟩

theorem letter_any (c : UInt8) (w : World) : Calls Tryz.prog 104 #[.int .u8 (c.toNat : Int)] w fun e w' => e = .returned (.bool (letterB c)) ∧ w = w' := by
  by_cases h1 : 97 ≤ (c.toNat : Int)
  · go_enter Tryz.func104, Tryz.ntmps104
    go_wp2
    go_ret
    exact ⟨ret_bool (by simp [letterB, h1]), rfl⟩
  · go_enter Tryz.func104, Tryz.ntmps104
    go_wp2
    go_ret
    exact ⟨ret_bool (by rw [letterB_not (by omega)]), rfl⟩

theorem digit_any (c : UInt8) (w : World) : Calls Tryz.prog 106 #[.int .u8 (c.toNat : Int)] w fun e w' => e = .returned (.bool (digitB c)) ∧ w = w' := by
  by_cases h1 : 48 ≤ (c.toNat : Int)
  · go_enter Tryz.func106, Tryz.ntmps106
    go_wp2
    go_ret
    exact ⟨ret_bool (by simp [digitB, h1]), rfl⟩
  · go_enter Tryz.func106, Tryz.ntmps106
    go_wp2
    go_ret
    exact ⟨ret_bool (by rw [digitB_not (by omega)]), rfl⟩

theorem part_any (c : UInt8) (w : World) : Calls Tryz.prog 103 #[.int .u8 (c.toNat : Int)] w fun e w' => e = .returned (.bool (partB c)) ∧ w = w' := by
  have HP : Hid (partB c = (letterB c || digitB c || underB c)) := Lib.hid rfl
  have HU : Hid (underB c = ((c.toNat : Int) == 95)) := Lib.hid (by rw [Bool.eq_iff_iff]; simp [underB]; omega)
  cases h1 : letterB c <;> cases h2 : digitB c
  all_goals
    go_enter Tryz.func103, Tryz.ntmps103
    go_wp2_with (first | (go_at_call 104; refine (letter_any _ _).mono ?_; rintro e w' ⟨rfl, rfl⟩) | (go_at_call 106; refine (digit_any _ _).mono ?_; rintro e w' ⟨rfl, rfl⟩))
    go_ret
    exact ⟨ret_bool (by rw [HP.out, HU.out, h1, h2]; simp), rfl⟩

theorem in_any (b n c : Nat) (zs : List ByteArray) (x : ByteArray) (w : World) (hz : zs.length = n) (hbig : n ≤ 1000000)
    (hc : ∀ j, j < n → w.cell? ⟨b, j, none⟩ = some (.string (zs.getD j ByteArray.empty))) :
    Calls Tryz.prog 105 #[.slice (some ⟨b, 0, none⟩) n c, .string x] w fun e w' => e = .returned (.bool (memB zs x)) ∧ w = w' := by
  have HZ := Lib.hid hz
  have hz' : n ≤ zs.length := by omega
  clear hz
  go_enter Tryz.func105, Tryz.ntmps105
  go_wp2
  go_loop [5] (fun i => ∃ k : Nat, k ≤ n ∧ i = .int .i64 k ∧ memB (zs.take k) x = false) (fun i => n - (intOf i).toNat)
  case atStart => exact ⟨0, Nat.zero_le _, rfl, by simp [memB]⟩
  case round =>
    obtain ⟨k, hk, rfl, hm⟩ := hrel
    have hcell : k < n → w.cell? ⟨b, k, none⟩ = some (.string (zs.getD k ByteArray.empty)) := fun h => hc k h
    have HM := Lib.hid hm
    clear hm hc
    go_wp2
    · rename_i hlt _ _ heq _
      go_ret
      exact ⟨ret_bool (memB_hit zs x k (by omega) (by simpa using (beq_iff_eq.1 heq).symm)).symm, rfl⟩
    · rename_i hlt hne
      refine ⟨⟨k + 1, by omega, by simp, ?_⟩, by simp [intOf]; omega⟩
      exact memB_miss zs x k (by omega) HM.out (fun h => absurd h.symm (by simpa using hne))
    · rename_i hge _
      go_ret
      refine ⟨ret_bool ?_, rfl⟩
      have hk : k = zs.length := by have := HZ.out; omega
      have h := HM.out
      rw [hk, List.take_length] at h
      exact h.symm
end Go.Proofs.YtiledamgmppcmaaGreatDoor
