/- Plain laws for LexKnown: long texts and long lists. -/
import Derived.Test.YtigppjgmfonodaaLexX
import Derived.Test.YtigppjgmfonodaaPad
import Derived.Lib.Repeat
namespace Go.Proofs.Ytigppjgmfonodaa
open Go.RowKit

def aTok : ZTok := ⟨1, [97], 0⟩
def items (n : Nat) : List (List UInt8 × ZTok) := ([], aTok) :: List.replicate n ([32], aTok)
theorem items_pad (n : Nat) (tl : List UInt8) : pad (items n) ++ (32 :: tl) = Lib.repeatL [97, 32] (n + 1) ++ tl := by
  have h : ∀ n, pad (List.replicate n ([32], aTok)) ++ (32 :: tl) = 32 :: (Lib.repeatL [97, 32] n ++ tl) := by
    intro n
    induction n with
    | zero => rfl
    | succ n ih =>
      rw [List.replicate_succ, pad_cons]
      simp only [Lib.repeatL, aTok, List.cons_append, List.nil_append]
      simp only [aTok] at ih
      rw [ih]
  unfold items
  rw [pad_cons]
  simp only [List.nil_append, aTok, Lib.repeatL, List.cons_append]
  have := h n
  simp only [aTok] at this
  rw [this]
theorem items_ok (n : Nat) : Padded false (items n) := by
  have h : ∀ n, Padded true (List.replicate n ([32], aTok)) := by
    intro n
    induction n with
    | zero => trivial
    | succ n ih => exact ⟨sep_sp.1, fun _ => sep_sp, by decide +kernel, ih⟩
  exact ⟨fill_nil, fun h => (by cases h), by decide +kernel, h n⟩
theorem items_len (n : Nat) : (items n).length = n + 1 := by simp [items]
theorem items_size (n : Nat) (tl : List UInt8) : (pad (items n) ++ (32 :: tl)).length = 2 * (n + 1) + tl.length := by
  rw [items_pad, List.length_append, Lib.repeatL_length]
  simp only [List.length_cons, List.length_nil]; omega

theorem many_full : ∃ l : List Tok, l.length = 2000 ∧ scanT (Lib.repeatL [97, 32] 2000) = (l, 0, 0) := by
  have h := scan_padded (b := false) (items := items 1999) (tl := [32]) (items_ok _) (.inr ⟨32, [], rfl, .inl rfl⟩) rfl (by rw [items_len]; omega) (by rw [items_size]; simp)
  rw [items_pad, List.append_nil] at h
  exact ⟨_, by rw [toks_length, items_len], h⟩
theorem many_more (tl : List UInt8) (hl : tl.length ≤ 10) : scanT (Lib.repeatL [97, 32] 2000 ++ tl) = scanG (4000 + tl.length) (tl.length + 2001) (32 :: tl) (toks 0 (items 1999)) := by
  rw [← items_pad 1999 tl]
  have hz := items_size 1999 tl
  unfold scanT
  rw [if_neg (by omega), hz, show 2 * (1999 + 1) + tl.length + 1 = (tl.length + 2001) + (items 1999).length by rw [items_len]; omega,
    scan_many (items 1999) false (32 :: tl) [] (tl.length + 2001) 0 (by omega) (items_ok _) (.inr ⟨32, _, rfl, .inl rfl⟩) (by rw [items_len]; simp)]
  rw [List.nil_append]
theorem many_over : scanT (Lib.repeatL [97, 32] 2000 ++ [32, 98]) = ([], 4001, 3) := by
  rw [many_more _ (by simp), show ([32, 98] : List UInt8).length + 2001 = 2002 + 1 from rfl, ← scanG_skip, show skipF false [32, 32, 98] = [98] by decide +kernel]
  rw [scanG_full (by decide +kernel) (by simp) (by decide +kernel) (by rw [toks_length, items_len])]
  rfl
theorem many_bad : scanT (Lib.repeatL [97, 32] 2000 ++ [63]) = ([], 4000, 340) := by
  rw [many_more _ (by simp), show ([63] : List UInt8).length + 2001 = 2001 + 1 from rfl, ← scanG_skip, show skipF false [32, 63] = [63] by decide +kernel]
  rw [scanG_bad (by decide +kernel) (by simp) (by decide +kernel)]
  rfl
theorem blank_over : scanT (Lib.repeatL [32] 20001) = ([], 0, 3) := by
  unfold scanT
  rw [if_pos (by rw [Lib.repeatL_length]; simp)]
theorem blank_skip (n : Nat) : skipF false (Lib.repeatL [32] n) = [] := by
  induction n with
  | zero => rfl
  | succ n ih => simpa [Lib.repeatL, skipF] using ih
theorem blank_full : scanT (Lib.repeatL [32] 20000) = ([], 0, 0) := by
  unfold scanT
  rw [if_neg (by rw [Lib.repeatL_length]; simp), ← scanG_skip, blank_skip, scanG_end]

def zTok : ZTok := ⟨0, [], 0⟩
def lTok : ZTok := ⟨1, [97, 98, 99, 100, 101, 102, 103, 104, 105, 106, 107, 108], 0⟩
theorem zeros_over : printZ (List.replicate 2001 zTok) = ([], 3) := by
  unfold printZ; rw [if_pos (by rw [List.length_replicate]; omega)]
theorem zeros_bad : printZ (List.replicate 2000 zTok) = ([], 340) := by
  unfold printZ
  rw [if_neg (by rw [List.length_replicate]; omega), if_pos (all_no (k := 0) (t := zTok) (by rw [List.getElem?_replicate, if_pos (by omega)]) (by decide +kernel))]
theorem longs_join (n : Nat) : (Lib.join ((List.replicate (n + 1) lTok).map (·.text)) [32]).length = 12 + 13 * n := by
  rw [List.replicate_succ, List.map_cons, Lib.join_cons]
  have h : ∀ n, (Lib.joinTail [32] ((List.replicate n lTok).map (·.text))).length = 13 * n := by
    intro n
    induction n with
    | zero => rfl
    | succ n ih =>
      rw [List.replicate_succ, List.map_cons]
      have e : ∀ (y : List UInt8) r, Lib.joinTail [32] (y :: r) = [32] ++ y ++ Lib.joinTail [32] r := by intro y r; simp [Lib.joinTail]
      rw [e, List.length_append, ih]
      simp [lTok]; omega
  rw [List.length_append, h]
  simp [lTok]
theorem longs_ok (n : Nat) : (List.replicate n lTok).all okTok = true := by
  rw [List.all_eq_true]
  intro x hx
  rw [List.eq_of_mem_replicate hx]
  decide +kernel
theorem longs_over : printZ (List.replicate 1600 lTok) = ([], 3) := by
  unfold printZ
  rw [if_neg (by rw [List.length_replicate]; omega), if_neg (by rw [longs_ok]; simp), if_pos (by rw [longs_join 1599]; omega)]
theorem longs_full : ∃ l : List UInt8, l.length = 19993 ∧ printZ (List.replicate 1538 lTok) = (l, 0) := by
  have h := longs_join 1537
  unfold printZ
  rw [if_neg (by rw [List.length_replicate]; omega), if_neg (by rw [longs_ok]; simp), if_neg (by rw [h]; omega)]
  exact ⟨_, h, rfl⟩

theorem words_give : (wordBytes.all fun x => givesB x [50 :: x] && givesB (x ++ [120]) [49 :: (x ++ [120])] && (checkE 1 x 0 == 340)) = true := by decide +kernel
theorem signs_give : (signBytes.all fun x => givesB x [52 :: x] && givesB (97 :: (x ++ [97])) [[49, 97], 52 :: x, [49, 97]]) = true := by decide +kernel
end Go.Proofs.Ytigppjgmfonodaa
