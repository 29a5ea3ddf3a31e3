/- Plain laws of scanning: a token ends where space begins; what an accepted text consists of. No program in sight. -/
import Derived.Test.YtigppjgmfonodaaLexP
namespace Go.Proofs.Ytigppjgmfonodaa
open Go.RowKit

/-- Space or a comment begins here, or nothing is left. -/
def Edge (r : List UInt8) : Prop := r = [] ∨ ∃ c t, r = c :: t ∧ (c = 32 ∨ c = 10 ∨ c = 35)

theorem edge_not_part {c : UInt8} (h : c = 32 ∨ c = 10 ∨ c = 35) : partB c = false := by
  rcases h with rfl | rfl | rfl <;> decide
theorem takeWhile_edge {x r : List UInt8} (hx : x.all partB = true) (hr : Edge r) : (x ++ r).takeWhile partB = x := by
  induction x with
  | nil =>
    rcases hr with rfl | ⟨c, t, rfl, hc⟩
    · rfl
    · simp [edge_not_part hc]
  | cons a x ih =>
    simp only [List.all_cons, Bool.and_eq_true] at hx
    rw [List.cons_append, List.takeWhile_cons, if_pos hx.1, ih hx.2]

theorem digit_part {c : UInt8} (h : digitB c = true) : partB c = true := by simp [partB, h]
theorem digit_not_letter {c : UInt8} (h : digitB c = true) : letterB c = false := by
  simp only [digitB, Bool.and_eq_true, decide_eq_true_eq] at h
  exact letterB_not (by omega)
theorem all_mono {l : List UInt8} {p q : UInt8 → Bool} (h : ∀ c, p c = true → q c = true) (hl : l.all p = true) : l.all q = true := by
  rw [List.all_eq_true] at hl ⊢
  exact fun c hc => h c (hl c hc)
theorem memL_iff {zs : List (List UInt8)} {l : List UInt8} : memL zs l = true ↔ l ∈ zs := by
  unfold memL
  rw [List.any_eq_true]
  constructor
  · rintro ⟨y, hy, h⟩
    have : l = y := by simpa using h
    rwa [this]
  · intro h; exact ⟨l, h, by simp⟩
theorem words_parts {l : List UInt8} (h : memL wordBytes l = true) : l.all partB = true ∧ (l.head?.map letterB).getD false = true := by
  have key : (wordBytes.all fun l => l.all partB && (l.head?.map letterB).getD false) = true := by decide +kernel
  rw [List.all_eq_true] at key
  have := key l (memL_iff.1 h)
  simpa using this

theorem head_app {x r : List UInt8} (h : x ≠ []) : (x ++ r).head? = x.head? := by
  cases x with | nil => exact absurd rfl h | cons a x => rfl

theorem sign_edge {x r : List UInt8} (hx : memL signBytes x = true) (hr : Edge r) : oneT (x ++ r) = (4, x) := by
  have hx' := memL_iff.1 hx
  have key : ∀ c : UInt8, (c = 32 ∨ c = 10 ∨ c = 35) → (signBytes.all fun x => ((x.head?.map letterB).getD false == false) && ((x.head?.map digitB).getD false == false) && ((x.length == 1 && memL signBytes (x ++ [c]) == false && memL signBytes x) || (x.length == 2))) = true := by
    rintro c (rfl | rfl | rfl) <;> decide +kernel
  have hne : x ≠ [] := by rintro rfl; revert hx; decide
  rcases hr with rfl | ⟨c, t, rfl, hc⟩
  · have h := List.all_eq_true.1 (key 32 (.inl rfl)) x hx'
    simp only [Bool.and_eq_true, Bool.or_eq_true, beq_iff_eq] at h
    obtain ⟨⟨h1, h2⟩, h3⟩ := h
    rw [List.append_nil, oneT, h1, h2, if_neg (by simp), if_neg (by simp)]
    have hlen : x.length ≤ 2 := by rcases h3 with ⟨⟨h3, _⟩, _⟩ | h3 <;> omega
    rw [List.take_of_length_le hlen, if_pos hx]
  · have h := List.all_eq_true.1 (key c hc) x hx'
    simp only [Bool.and_eq_true, Bool.or_eq_true, beq_iff_eq] at h
    obtain ⟨⟨h1, h2⟩, h3⟩ := h
    rw [oneT, head_app hne, h1, h2, if_neg (by simp), if_neg (by simp)]
    rcases h3 with ⟨⟨h3, h4⟩, h5⟩ | h3
    · obtain ⟨a, rfl⟩ : ∃ a, x = [a] := by
        cases x with
        | nil => simp at h3
        | cons a y => cases y with | nil => exact ⟨a, rfl⟩ | cons => simp at h3
      have e2 : ([a] ++ c :: t).take 2 = [a] ++ [c] := by simp
      have e1 : ([a] ++ c :: t).take 1 = [a] := by simp
      rw [e2, h4, e1]; simp
    · have e2 : (x ++ c :: t).take 2 = x := by rw [List.take_append_of_le_length (by omega), List.take_of_length_le (by omega)]
      rw [e2, if_pos hx]

theorem oneT_edge {kd : Int} {x r : List UInt8} (h : rightB kd x = true) (hr : Edge r) : oneT (x ++ r) = (kd, x) := by
  have hne := rightB_ne h
  unfold rightB at h
  split at h
  · rename_i hk; subst hk
    have hp := h
    simp only [nameB, wordB, Bool.and_eq_true] at hp
    obtain ⟨⟨⟨h1, h2⟩, h3⟩, h4⟩ := hp
    rw [oneT, head_app hne, if_pos h2, takeWhile_edge h1 hr]
    simp only [Bool.not_eq_true'] at h4
    rw [h4]; simp
  · split at h
    · rename_i hk; subst hk
      obtain ⟨h1, h2⟩ := words_parts h
      rw [oneT, head_app hne, if_pos h2, takeWhile_edge h1 hr, h]; simp
    · split at h
      · rename_i hk; subst hk
        have hp := h
        simp only [numberB, Bool.and_eq_true] at hp
        obtain ⟨h1, _⟩ := hp
        cases x with
        | nil => exact absurd rfl hne
        | cons c y =>
          have hc : digitB c = true := by simp only [List.all_cons, Bool.and_eq_true] at h1; exact h1.1
          have e1 : ((c :: y).head?.map letterB).getD false = false := by simpa using digit_not_letter hc
          have e2 : ((c :: y).head?.map digitB).getD false = true := by simpa using hc
          rw [oneT, head_app hne, e1, e2, if_neg (by simp), if_pos rfl, takeWhile_edge (all_mono (fun _ => digit_part) h1) hr]
      · split at h
        · rename_i hk; subst hk
          exact sign_edge h hr
        · cases h

theorem right_first {kd : Int} {c : UInt8} {x : List UInt8} (h : rightB kd (c :: x) = true) : c ≠ 32 ∧ c ≠ 10 ∧ c ≠ 35 := by
  refine ⟨?_, ?_, ?_⟩ <;> rintro rfl
  all_goals
    unfold rightB at h
    split at h
    · simp only [nameB, wordB, Bool.and_eq_true] at h
      have := h.1.1.2
      revert this; simp; decide
    · split at h
      · have := (words_parts h).2
        revert this; simp; decide
      · split at h
        · simp only [numberB, Bool.and_eq_true, List.all_cons] at h
          have := h.1.1
          revert this; decide
        · split at h
          · have key : (signBytes.all fun x => (x.head? != some 32) && (x.head? != some 10) && (x.head? != some 35)) = true := by decide +kernel
            have := List.all_eq_true.1 key _ (memL_iff.1 h)
            revert this; simp
          · cases h
theorem skip_right {kd : Int} {x r : List UInt8} (h : rightB kd x = true) : skipF false (x ++ r) = x ++ r := by
  cases x with
  | nil => exact absurd rfl (rightB_ne h)
  | cons c x =>
    obtain ⟨h1, h2, h3⟩ := right_first h
    simp [skipF, h1, h2, h3]

/-- One token behind space. -/
theorem scan_step {n f : Nat} {sep x r : List UInt8} {acc : List Tok} {kd : Int} (hs : skipF false (sep ++ (x ++ r)) = x ++ r) (h : rightB kd x = true) (hr : Edge r) (ha : acc.length ≠ 2000) :
    scanG n (f + 1) (sep ++ (x ++ r)) acc = scanG n f r (acc ++ [⟨kd, x, n - (x ++ r).length⟩]) := by
  rw [← scanG_skip, hs]
  have hne : x ++ r ≠ [] := by intro e; exact rightB_ne h (List.append_eq_nil_iff.1 e).1
  rw [scanG_next (skip_right h) hne (by rw [oneT_edge h hr]; exact h) ha, oneT_edge h hr]
  simp

/-- A text that is one token. -/
theorem scan_alone {kd : Int} {x : List UInt8} (h : rightB kd x = true) (hl : x.length ≤ 20000) : scanT x = ([⟨kd, x, 0⟩], 0, 0) := by
  have hx := rightB_ne h
  obtain ⟨m, hm⟩ : ∃ m, x.length = m + 1 := ⟨x.length - 1, by cases x with | nil => exact absurd rfl hx | cons => simp⟩
  have h1 := scan_step (n := x.length) (f := x.length) (sep := []) (r := []) (acc := []) (by rw [List.nil_append]; exact skip_right h) h (.inl rfl) (by simp)
  unfold scanT
  rw [if_neg (by omega)]
  simp only [List.nil_append, List.append_nil, Nat.sub_self] at h1
  rw [h1, hm, scanG_end]

/-- What an accepted text consists of, from e on. -/
def CovL (full : List UInt8) : Nat → List Tok → Prop
  | e, [] => skipF false (full.drop e) = []
  | e, t :: r => e ≤ t.pos ∧ skipF false (full.drop e) = full.drop t.pos ∧ t.pos + t.text.length ≤ full.length ∧ rightB t.kind t.text = true ∧ (full.drop t.pos).take t.text.length = t.text ∧ CovL full (t.pos + t.text.length) r

theorem scanG_cov (full : List UInt8) (f e : Nat) (acc : List Tok) (res : List Tok) (he : e ≤ full.length) (hf : full.length - e < f) (h : scanG full.length f (full.drop e) acc = (res, 0, 0)) :
    ∃ new, res = acc ++ new ∧ CovL full e new := by
  induction f generalizing e acc with
  | zero => omega
  | succ f ih =>
    rw [scanG] at h
    by_cases h1 : skipF false (full.drop e) = []
    · rw [if_pos h1] at h
      refine ⟨[], ?_, h1⟩
      have := congrArg Prod.fst h
      simpa using this.symm
    · rw [if_neg h1] at h
      obtain ⟨p, hp⟩ : ∃ p, p = skipN full e := ⟨_, rfl⟩
      have hp1 := skipN_ge full e he
      have hp2 := skipN_drop full e
      rw [← hp] at hp1 hp2
      rw [← hp2] at h1 h
      have hplt : p < full.length := by
        rcases Nat.lt_or_ge p full.length with h' | h'
        · exact h'
        · exact absurd (List.drop_eq_nil_of_le h') h1
      by_cases h2 : rightB (oneT (full.drop p)).1 (oneT (full.drop p)).2 = false
      · rw [if_pos h2] at h; simp at h
      · rw [if_neg h2] at h
        by_cases h3 : acc.length = 2000
        · rw [if_pos h3] at h; simp at h
        · rw [if_neg h3] at h
          have h2' : rightB (oneT (full.drop p)).1 (oneT (full.drop p)).2 = true := by simpa using h2
          have hpre := oneT_prefix (full.drop p)
          have hlen : p + (oneT (full.drop p)).2.length ≤ full.length := by
            have := congrArg List.length hpre
            rw [List.length_take, List.length_drop] at this
            omega
          have hne := rightB_ne h2'
          have hpos : 1 ≤ (oneT (full.drop p)).2.length := by
            cases hx : (oneT (full.drop p)).2 with
            | nil => exact absurd hx hne
            | cons => simp
          rw [List.drop_drop, show full.length - (full.drop p).length = p from by simp; omega] at h
          obtain ⟨new, hn1, hn2⟩ := ih (p + (oneT (full.drop p)).2.length) _ hlen (by omega) h
          refine ⟨⟨(oneT (full.drop p)).1, (oneT (full.drop p)).2, p⟩ :: new, by rw [hn1]; simp, hp1.1, hp2.symm, hlen, h2', hpre.symm, hn2⟩

theorem scanT_cov {full : List UInt8} {res : List Tok} (h : scanT full = (res, 0, 0)) : full.length ≤ 20000 ∧ CovL full 0 res := by
  unfold scanT at h
  by_cases hl : 20000 < full.length
  · rw [if_pos hl] at h; simp at h
  · rw [if_neg hl] at h
    obtain ⟨new, h1, h2⟩ := scanG_cov full (full.length + 1) 0 [] res (by omega) (by omega) (by simpa using h)
    simp at h1; subst h1
    exact ⟨by omega, h2⟩

theorem skip_seg {b : Bool} {l : List UInt8} {k : Nat} (hk : k ≤ l.length) (h : skipF b l = l.drop k) : skipF b (l.take k) = [] := by
  induction l generalizing b k with
  | nil => cases b <;> simp [skipF]
  | cons c t ih =>
    cases k with
    | zero => cases b <;> simp [skipF]
    | succ k =>
      rw [List.drop_succ_cons] at h
      rw [List.take_succ_cons]
      have hk' : k ≤ t.length := by simpa using hk
      cases b
      · simp only [skipF] at h ⊢
        split
        · rename_i h1; rw [if_pos h1] at h; exact ih hk' h
        · rename_i h1; rw [if_neg h1] at h
          split
          · rename_i h2; rw [if_pos h2] at h; exact ih hk' h
          · rename_i h2; rw [if_neg h2] at h
            have := congrArg List.length h
            simp at this; omega
      · simp only [skipF] at h ⊢
        split
        · rename_i h1; rw [if_pos h1] at h; exact ih hk' h
        · rename_i h1; rw [if_neg h1] at h; exact ih hk' h
end Go.Proofs.Ytigppjgmfonodaa
