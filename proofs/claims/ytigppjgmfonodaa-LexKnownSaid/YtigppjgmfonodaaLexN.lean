/- Plain definitions and lemmas for scanning: space and comments, one token, a text. No program in sight. -/
import Derived.Test.YtigppjgmfonodaaLexM
import Derived.Lib.Bytealg
namespace Go.Proofs.Ytigppjgmfonodaa
open Go.RowKit

/-- What is left behind space and comments; true: within a comment. -/
def skipF : Bool → List UInt8 → List UInt8
  | _, [] => []
  | true, c :: t => if c = 10 then skipF false t else skipF true t
  | false, c :: t => if c = 32 ∨ c = 10 then skipF false t else if c = 35 then skipF true t else c :: t

theorem skipF_le (b : Bool) (l : List UInt8) : (skipF b l).length ≤ l.length := by
  induction l generalizing b with
  | nil => cases b <;> simp [skipF]
  | cons c t ih =>
    cases b
    · simp only [skipF]
      split
      · have := ih false; simp; omega
      · split
        · have := ih true; simp; omega
        · simp
    · simp only [skipF]
      split
      · have := ih false; simp; omega
      · have := ih true; simp; omega

theorem skipF_suffix (b : Bool) (l : List UInt8) : skipF b l = l.drop (l.length - (skipF b l).length) := by
  induction l generalizing b with
  | nil => cases b <;> simp [skipF]
  | cons c t ih =>
    have key : ∀ b', skipF b' t = (c :: t).drop ((c :: t).length - (skipF b' t).length) := by
      intro b'
      have h := skipF_le b' t
      rw [show (c :: t).length - (skipF b' t).length = (t.length - (skipF b' t).length) + 1 from by simp; omega, List.drop_succ_cons]
      exact ih b'
    cases b
    · simp only [skipF]
      split
      · exact key false
      · split
        · exact key true
        · simp
    · simp only [skipF]
      split
      · exact key false
      · exact key true

theorem skipF_index (l : List UInt8) : (Lib.indexByte l 10 = -1 ∧ skipF true l = []) ∨ ∃ j : Nat, Lib.indexByte l 10 = j ∧ j < l.length ∧ skipF true l = skipF false (l.drop j) := by
  induction l with
  | nil => exact .inl ⟨rfl, rfl⟩
  | cons c t ih =>
    by_cases h : c = 10
    · refine .inr ⟨0, by simp [Lib.indexByte, h], by simp, ?_⟩
      simp [skipF, h]
    · rcases ih with ⟨h1, h2⟩ | ⟨j, h1, h2, h3⟩
      · exact .inl ⟨by simp [Lib.indexByte, h, h1], by simp [skipF, h, h2]⟩
      · refine .inr ⟨j + 1, ?_, by simp; omega, ?_⟩
        · have hne : ¬ ((j : Int) = -1) := by omega
          simp [Lib.indexByte, h, h1, hne]
        · simp [skipF, h, h3]

theorem drop_cons {l : List UInt8} {k : Nat} (h : k < l.length) : l.drop k = l[k] :: l.drop (k + 1) := List.drop_eq_getElem_cons h

theorem skip_blank {l : List UInt8} {k : Nat} (h : k < l.length) (hc : l[k] = 32 ∨ l[k] = 10) : skipF false (l.drop k) = skipF false (l.drop (k + 1)) := by
  rw [drop_cons h]; simp [skipF, hc]
theorem skip_comment {l : List UInt8} {k : Nat} (h : k < l.length) (hc : l[k] = 35) : skipF false (l.drop k) = skipF true (l.drop (k + 1)) := by
  rw [drop_cons h]; simp [skipF, hc]
theorem skip_other {l : List UInt8} {k : Nat} (h : k < l.length) (h1 : l[k] ≠ 32) (h2 : l[k] ≠ 10) (h3 : l[k] ≠ 35) : skipF false (l.drop k) = l.drop k := by
  rw [drop_cons h]; simp [skipF, h1, h2, h3]
theorem skip_comment_none {l : List UInt8} {k : Nat} (h : k < l.length) (hc : l[k] = 35) (hi : Lib.indexByte (l.drop k) 10 = -1) : skipF false (l.drop k) = skipF false (l.drop l.length) := by
  rw [skip_comment h hc]
  have e : Lib.indexByte (l.drop k) 10 = if Lib.indexByte (l.drop (k + 1)) 10 == -1 then -1 else Lib.indexByte (l.drop (k + 1)) 10 + 1 := by
    rw [drop_cons h, hc]; rfl
  rcases skipF_index (l.drop (k + 1)) with ⟨_, h2⟩ | ⟨j, h1, _, _⟩
  · rw [h2]; simp [skipF]
  · rw [e, h1] at hi
    have : ¬ ((j : Int) == -1) = true := by simp
    rw [if_neg this] at hi; omega
theorem skip_comment_some {l : List UInt8} {k : Nat} (h : k < l.length) (hc : l[k] = 35) (hi : ¬ Lib.indexByte (l.drop k) 10 < 0) :
    ∃ j : Nat, Lib.indexByte (l.drop k) 10 = j ∧ 1 ≤ j ∧ k + j < l.length ∧ skipF false (l.drop k) = skipF false (l.drop (k + j)) := by
  rw [skip_comment h hc]
  have e : Lib.indexByte (l.drop k) 10 = if Lib.indexByte (l.drop (k + 1)) 10 == -1 then -1 else Lib.indexByte (l.drop (k + 1)) 10 + 1 := by
    rw [drop_cons h, hc]; rfl
  rcases skipF_index (l.drop (k + 1)) with ⟨h1, _⟩ | ⟨j, h1, h2, h3⟩
  · rw [e, h1] at hi; simp at hi
  · have hne : ¬ ((j : Int) == -1) = true := by simp
    refine ⟨j + 1, ?_, by omega, ?_, ?_⟩
    · rw [e, h1, if_neg hne]; omega
    · simp at h2; omega
    · rw [h3, List.drop_drop]; congr 2; omega
theorem indexByte_neg {l : List UInt8} {c : UInt8} (h : Lib.indexByte l c < 0) : Lib.indexByte l c = -1 := by
  induction l with
  | nil => rfl
  | cons b t ih =>
    simp only [Lib.indexByte] at h ⊢
    split
    · rename_i h1; rw [if_pos h1] at h; simp at h
    · rename_i h1
      rw [if_neg h1] at h
      split
      · rfl
      · rename_i h2
        rw [if_neg h2] at h
        have := ih (by omega)
        exact absurd (by simpa using this) h2

/-- Where a text goes on behind space and comments. -/
def skipN (l : List UInt8) (k : Nat) : Nat := l.length - (skipF false (l.drop k)).length
theorem skipN_ge (l : List UInt8) (k : Nat) (h : k ≤ l.length) : k ≤ skipN l k ∧ skipN l k ≤ l.length := by
  have := skipF_le false (l.drop k)
  unfold skipN
  simp at this
  omega
theorem skipN_of {l : List UInt8} {k k' : Nat} (h : skipF false (l.drop k') = skipF false (l.drop k)) (he : skipF false (l.drop k') = l.drop k') (hk : k' ≤ l.length) : skipN l k = k' := by
  unfold skipN
  rw [← h, he]; simp; omega
theorem skipN_drop (l : List UInt8) (k : Nat) : l.drop (skipN l k) = skipF false (l.drop k) := by
  unfold skipN
  have h := skipF_suffix false (l.drop k)
  have hle := skipF_le false (l.drop k)
  rw [List.drop_drop] at h
  rcases Nat.lt_or_ge l.length k with hk | hk
  · have e : l.drop k = [] := List.drop_eq_nil_of_le (by omega)
    rw [e]; simp [skipF]
  · rw [List.length_drop] at h hle
    rw [show l.length - (skipF false (l.drop k)).length = k + (l.length - k - (skipF false (l.drop k)).length) from by omega]
    exact h.symm

/-- The token at the head of a text that is not empty: its kind and its text. -/
def oneT (l : List UInt8) : Int × List UInt8 :=
  if (l.head?.map letterB).getD false then (if memL wordBytes (l.takeWhile partB) then 2 else 1, l.takeWhile partB)
  else if (l.head?.map digitB).getD false then (3, l.takeWhile partB)
  else (4, if memL signBytes (l.take 2) then l.take 2 else l.take 1)

theorem takeWhile_of {l : List UInt8} {p : UInt8 → Bool} {n : Nat} (hn : n ≤ l.length) (h : (l.take n).all p = true) (he : ∀ h' : n < l.length, p l[n] = false) : l.takeWhile p = l.take n := by
  induction l generalizing n with
  | nil => simp
  | cons c t ih =>
    cases n with
    | zero =>
      have := he (by simp)
      simp at this
      simp [this]
    | succ n =>
      simp only [List.take_succ_cons, List.all_cons, Bool.and_eq_true] at h
      rw [List.takeWhile_cons, if_pos h.1, List.take_succ_cons, ih (by simpa using hn) h.2 (fun h' => he (Nat.succ_lt_succ h'))]

theorem extract_list (s : ByteArray) (i j : Nat) : s.extract i j = ⟨((s.data.toList.drop i).take (j - i)).toArray⟩ := by
  apply ByteArray.ext
  apply Array.toList_inj.1
  rw [ByteArray.data_extract, Array.toList_extract]

end Go.Proofs.Ytigppjgmfonodaa
