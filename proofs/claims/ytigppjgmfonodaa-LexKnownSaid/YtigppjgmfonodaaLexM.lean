/- Plain definitions for the lexer: words, signs, membership. No program in sight. -/
import Derived.Below
import Derived.Laws.Strings
namespace Go.Proofs.Ytigppjgmfonodaa
open Go.RowKit

def memB (zs : List ByteArray) (x : ByteArray) : Bool := zs.any fun y => x.toList == y.toList

theorem memB_hit (zs : List ByteArray) (x : ByteArray) (k : Nat) (hk : k < zs.length) (h : x.toList = (zs[k]?.getD ByteArray.empty).toList) : memB zs x = true := by
  unfold memB
  rw [List.any_eq_true]
  rw [List.getElem?_eq_getElem hk] at h
  exact ⟨zs[k], List.getElem_mem hk, by simpa using h⟩

theorem memB_miss (zs : List ByteArray) (x : ByteArray) (k : Nat) (hk : k < zs.length) (h : memB (zs.take k) x = false) (h1 : ¬ x.toList = (zs[k]?.getD ByteArray.empty).toList) : memB (zs.take (k + 1)) x = false := by
  rw [List.getElem?_eq_getElem hk] at h1
  unfold memB at *
  rw [List.take_succ_eq_append_getElem hk, List.any_append, h]
  simpa using h1

/-- The ending returns some int with a property. -/
def IntIs (P : Int → Prop) (e : Ending) : Prop := ∃ n : Int, e = .returned (.int .i64 n) ∧ P n

def wordBytes : List (List UInt8) := [[109, 111, 100, 117, 108, 101], [101, 110, 100], [118, 97, 114], [109, 105, 110], [119, 104, 101, 110], [103, 97, 105, 110], [108, 97, 98, 101, 108], [115, 116, 97, 121], [97, 110, 100], [111, 114], [110, 111, 116], [105, 102], [116, 104, 101, 110], [101, 108, 115, 101], [116, 114, 117, 101], [102, 97, 108, 115, 101], [109, 97, 120], [118, 97, 108, 117, 101], [114, 101, 97, 99, 104], [117, 110, 116, 105, 108], [119, 105, 116, 104, 105, 110], [116, 111, 116, 97, 108], [109, 101, 97, 110]]
def signBytes : List (List UInt8) := [[40], [41], [91], [93], [58], [59], [44], [124], [43], [45], [42], [47], [61], [39], [60], [62], [33, 61], [60, 61], [62, 61], [45, 62], [46, 46]]
def wordList : List ByteArray := wordBytes.map fun l => ⟨l.toArray⟩
def signList : List ByteArray := signBytes.map fun l => ⟨l.toArray⟩
def wordCells : Array Value := (wordList.map Value.string).toArray
def signCells : Array Value := (signList.map Value.string).toArray

def letterB (c : UInt8) : Bool := decide (97 ≤ (c.toNat : Int)) && decide ((c.toNat : Int) ≤ 122)
def digitB (c : UInt8) : Bool := decide (48 ≤ (c.toNat : Int)) && decide ((c.toNat : Int) ≤ 57)
def underB (c : UInt8) : Bool := decide (95 ≤ (c.toNat : Int)) && decide ((c.toNat : Int) ≤ 95)
def partB (c : UInt8) : Bool := letterB c || digitB c || underB c
def wordB (l : List UInt8) : Bool := l.all partB && (l.head?.map letterB).getD false

theorem letterB_of {c : UInt8} (h : 97 ≤ (c.toNat : Int) ∧ (c.toNat : Int) ≤ 122) : letterB c = true := by simp [letterB, h.1, h.2]
theorem letterB_not {c : UInt8} (h : (c.toNat : Int) < 97 ∨ 122 < (c.toNat : Int)) : letterB c = false := by simp [letterB]; omega
theorem digitB_of {c : UInt8} (h : 48 ≤ (c.toNat : Int) ∧ (c.toNat : Int) ≤ 57) : digitB c = true := by simp [digitB, h.1, h.2]
theorem digitB_not {c : UInt8} (h : (c.toNat : Int) < 48 ∨ 57 < (c.toNat : Int)) : digitB c = false := by simp [digitB]; omega
theorem underB_of {c : UInt8} (h : 95 ≤ (c.toNat : Int) ∧ (c.toNat : Int) ≤ 95) : underB c = true := by simp [underB, h.1, h.2]
theorem underB_not {c : UInt8} (h : (c.toNat : Int) < 95 ∨ 95 < (c.toNat : Int)) : underB c = false := by simp [underB]; omega

def memL (zs : List (List UInt8)) (l : List UInt8) : Bool := zs.any fun y => l == y
theorem memB_list (zs : List (List UInt8)) (s : ByteArray) : memB (zs.map fun l => ⟨l.toArray⟩) s = memL zs s.data.toList := by
  unfold memB memL
  rw [List.any_map]
  congr 1
  funext y
  show (s.toList == (ByteArray.mk y.toArray).toList) = _
  rw [ByteArray.toList_eq, ByteArray.toList_eq]
theorem memB_words (s : ByteArray) : memB wordList s = memL wordBytes s.data.toList := memB_list _ _
theorem memB_signs (s : ByteArray) : memB signList s = memL signBytes s.data.toList := memB_list _ _
theorem strCells_at (zs : List ByteArray) (j : Nat) (h : j < zs.length) : ((zs.map Value.string).toArray)[j]? = some (.string (zs.getD j ByteArray.empty)) := by
  simp [h]
theorem wordCells_at (j : Nat) (h : j < 23) : wordCells[j]? = some (.string (wordList.getD j ByteArray.empty)) := by
  exact strCells_at wordList j h
theorem signCells_at (j : Nat) (h : j < 21) : signCells[j]? = some (.string (signList.getD j ByteArray.empty)) := by
  exact strCells_at signList j h

def nameB (l : List UInt8) : Bool := wordB l && decide (l.length ≤ 12) && !memL wordBytes l
def numberB (l : List UInt8) : Bool := l.all digitB && (l == [48] || (!l.isEmpty && l.head? != some 48 && decide (l.length ≤ 4)))
def rightB (kind : Int) (l : List UInt8) : Bool :=
  if kind = 1 then nameB l else if kind = 2 then memL wordBytes l else if kind = 3 then numberB l else if kind = 4 then memL signBytes l else false
def checkE (kind : Int) (l : List UInt8) (at_ : Int) : Int := if at_ < 0 ∨ 20000 ≤ at_ ∨ rightB kind l = false then 340 else 0

end Go.Proofs.Ytigppjgmfonodaa
