/- Plain definitions and lemmas: scanning a text. No program in sight. -/
import Derived.Test.YtigppjgmfonodaaLexN
namespace Go.Proofs.Ytigppjgmfonodaa
open Go.RowKit

structure Tok where
  kind : Int
  text : List UInt8
  pos : Nat
deriving DecidableEq

/-- The tokens of a text, an index and an error; n: the length of the whole text. -/
def scanG (n : Nat) : Nat → List UInt8 → List Tok → List Tok × Nat × Int
  | 0, _, acc => (acc, 0, 0)
  | f + 1, l, acc =>
    if skipF false l = [] then (acc, 0, 0)
    else if rightB (oneT (skipF false l)).1 (oneT (skipF false l)).2 = false then ([], n - (skipF false l).length, 340)
    else if acc.length = 2000 then ([], n - (skipF false l).length, 3)
    else scanG n f ((skipF false l).drop (oneT (skipF false l)).2.length) (acc ++ [⟨(oneT (skipF false l)).1, (oneT (skipF false l)).2, n - (skipF false l).length⟩])

def scanT (l : List UInt8) : List Tok × Nat × Int := if 20000 < l.length then ([], 0, 3) else scanG l.length (l.length + 1) l []

theorem skipF_skip (b : Bool) (l : List UInt8) : skipF false (skipF b l) = skipF b l := by
  induction l generalizing b with
  | nil => cases b <;> simp [skipF]
  | cons c t ih =>
    cases b
    · simp only [skipF]
      split
      · exact ih false
      · split
        · exact ih true
        · rename_i h1 h2
          simp [skipF, h1, h2]
    · simp only [skipF]
      split
      · exact ih false
      · exact ih true

theorem scanG_skip (n f : Nat) (l : List UInt8) (acc : List Tok) : scanG n (f + 1) (skipF false l) acc = scanG n (f + 1) l acc := by
  simp only [scanG, skipF_skip]

theorem rightB_ne {kd : Int} {tx : List UInt8} (h : rightB kd tx = true) : tx ≠ [] := by
  rintro rfl
  unfold rightB at h
  split at h
  · simp [nameB, wordB] at h
  · split at h
    · revert h; decide
    · split at h
      · revert h; decide
      · split at h
        · revert h; decide
        · cases h

theorem oneT_prefix (l : List UInt8) : (oneT l).2 = l.take (oneT l).2.length := by
  have h3 : l.takeWhile partB = l.take (l.takeWhile partB).length := by
    induction l with
    | nil => simp
    | cons c t ih =>
      rw [List.takeWhile_cons]
      split
      · rw [List.length_cons, List.take_succ_cons, ← ih]
      · simp
  have h4 : ∀ n, l.take n = l.take (l.take n).length := fun n => by
    rw [List.length_take, List.take_eq_take_iff]; omega
  unfold oneT
  split
  · exact h3
  · split
    · exact h3
    · dsimp only
      split
      · exact h4 2
      · exact h4 1

/-- One step of a scan, at a token. -/
theorem scanG_bad {n f : Nat} {l : List UInt8} {acc : List Tok} (hs : skipF false l = l) (hl : l ≠ []) (h : rightB (oneT l).1 (oneT l).2 = false) : scanG n (f + 1) l acc = ([], n - l.length, 340) := by
  rw [scanG, hs, if_neg hl, if_pos h]
theorem scanG_full {n f : Nat} {l : List UInt8} {acc : List Tok} (hs : skipF false l = l) (hl : l ≠ []) (h : rightB (oneT l).1 (oneT l).2 = true) (ha : acc.length = 2000) : scanG n (f + 1) l acc = ([], n - l.length, 3) := by
  rw [scanG, hs, if_neg hl, if_neg (by rw [h]; simp), if_pos ha]
theorem scanG_next {n f : Nat} {l : List UInt8} {acc : List Tok} (hs : skipF false l = l) (hl : l ≠ []) (h : rightB (oneT l).1 (oneT l).2 = true) (ha : acc.length ≠ 2000) :
    scanG n (f + 1) l acc = scanG n f (l.drop (oneT l).2.length) (acc ++ [⟨(oneT l).1, (oneT l).2, n - l.length⟩]) := by
  rw [scanG, hs, if_neg hl, if_neg (by rw [h]; simp), if_neg ha]
theorem scanG_end {n f : Nat} {acc : List Tok} : scanG n (f + 1) [] acc = (acc, 0, 0) := by
  rw [scanG]; simp [skipF]

def bytesOf (l : List UInt8) : ByteArray := ⟨l.toArray⟩
theorem bytesOf_list (s : ByteArray) : bytesOf s.data.toList = s := by
  apply ByteArray.ext; simp [bytesOf]
theorem list_bytesOf (l : List UInt8) : (bytesOf l).data.toList = l := by simp [bytesOf]
theorem eq_bytesOf {s : ByteArray} {l : List UInt8} (h : s.data.toList = l) : s = bytesOf l := by rw [← h, bytesOf_list]
def Tok.cells (t : Tok) : List Value := [.int .i64 t.kind, .string (bytesOf t.text), .int .i64 (t.pos : Int)]
def Tok.val (t : Tok) : Value := .agg #[.int .i64 t.kind, .string (bytesOf t.text), .int .i64 (t.pos : Int)]
def tokCells (l : List Tok) : List Value := l.flatMap Tok.cells
theorem tokCells_snoc (l : List Tok) (t : Tok) : tokCells (l ++ [t]) = tokCells l ++ t.cells := by simp [tokCells]
theorem tokCells_length (l : List Tok) : (tokCells l).length = l.length * 3 := by
  induction l with
  | nil => rfl
  | cons t l ih =>
    have : tokCells (t :: l) = t.cells ++ tokCells l := by simp [tokCells]
    rw [this, List.length_append, ih]
    simp [Tok.cells]; omega

end Go.Proofs.Ytigppjgmfonodaa
