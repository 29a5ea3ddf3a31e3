/- Kinds of tokens and Check, of the program and of the reference: what each call computes. -/
import Derived.Test.YtigppjgmfonodaaLexD
import Derived.Test.YtigppjgmfonodaaLexE
namespace Go.Proofs.Ytigppjgmfonodaa
open Go.RowKit

theorem right_is (kind : Int) (l : List UInt8) : rightB kind l = if kind = 1 then nameB l else if kind = 2 then memL wordBytes l else if kind = 3 then numberB l else if kind = 4 then memL signBytes l else false := rfl

theorem words_below {W w w1 : World} (hb : Below W.heap.size W w) (h : w.alloc (.cells wordCells 9) = w1) : Below W.heap.size W w1 := by rw [← h]; exact hb.alloc hb.size _
theorem contains_words (w : World) (s : ByteArray) (b : Bool) (h : memB wordList s = b) :
    Calls Try.prog 48 #[.slice (some ⟨w.heap.size, 0, none⟩) 23 23, .string s] (w.alloc (.cells wordCells 9)) fun e w' => e = .returned (.bool b) ∧ w.alloc (.cells wordCells 9) = w' := by
  rw [← h]; exact contains_any _ 23 _ wordList _ _ rfl (by omega) (words_cells _)
theorem contains_signs (w : World) (s : ByteArray) (b : Bool) (h : memB signList s = b) :
    Calls Try.prog 48 #[.slice (some ⟨w.heap.size, 0, none⟩) 21 21, .string s] (w.alloc (.cells signCells 9)) fun e w' => e = .returned (.bool b) ∧ w.alloc (.cells signCells 9) = w' := by
  rw [← h]; exact contains_any _ 21 _ signList _ _ rfl (by omega) (signs_cells _)

set_option maxHeartbeats 1000000 in
theorem right_any (kind : Int) (s : ByteArray) (w : World) (hs : s.size ≤ 1000000) :
    Calls Try.prog 32 #[.int .i64 kind, .string s] w fun e w' => e = .returned (.bool (rightB kind s.data.toList)) ∧ Below w.heap.size w w' := by
  have hlen : s.data.toList.length = s.size := by simp
  have HL := Lib.hid hlen
  clear hlen
  by_cases h1 : kind = 1
  · subst h1
    cases h2 : wordB s.data.toList
    · go_enter Try.func32, Try.ntmps32
      go_wp2_with (go_at_call 47; refine (word_any _ _ hs).mono ?_; rintro e w1 ⟨rfl, hb1⟩)
      go_ret
      exact ⟨ret_bool (by rw [right_is, if_pos rfl, nameB, h2]; rfl), hb1⟩
    · by_cases h3 : s.size ≤ 12
      · have HM : Hid (nameB s.data.toList = !memB wordList s) := Lib.hid (by rw [nameB, h2, memB_words, decide_eq_true (by rw [HL.out]; exact h3)]; rfl)
        go_enter Try.func32, Try.ntmps32
        go_wp2_with (first | (go_at_call 47; refine (word_any _ _ hs).mono ?_; rintro e w1 ⟨rfl, hb1⟩) | (go_at_call 14; refine (words_any _).mono ?_; rintro e w' ⟨rfl, rfl⟩) | (go_at_call 48; refine (contains_any _ 23 _ wordList _ _ rfl (by omega) (words_cells _)).mono ?_; rintro e w' ⟨rfl, rfl⟩))
        go_ret
        exact ⟨ret_bool (by rw [right_is, if_pos rfl, HM.out]), hb1.alloc hb1.size _⟩
      · go_enter Try.func32, Try.ntmps32
        go_wp2_with (go_at_call 47; refine (word_any _ _ hs).mono ?_; rintro e w1 ⟨rfl, hb1⟩)
        go_ret
        exact ⟨ret_bool (by rw [right_is, if_pos rfl, nameB, decide_eq_false (by rw [HL.out]; exact h3)]; simp), hb1⟩
  · by_cases h2 : kind = 2
    · subst h2
      go_enter Try.func32, Try.ntmps32
      go_wp2_with (first | (go_at_call 14; refine (words_any _).mono ?_; rintro e w' ⟨rfl, rfl⟩) | (go_at_call 48; refine (contains_any _ 23 _ wordList _ _ rfl (by omega) (words_cells _)).mono ?_; rintro e w' ⟨rfl, rfl⟩))
      go_ret
      exact ⟨ret_bool (by rw [right_is, memB_words]; rfl), (Below.refl _ _).alloc (Nat.le_refl _) _⟩
    · by_cases h3 : kind = 3
      · subst h3
        go_enter Try.func32, Try.ntmps32
        go_wp2_with (go_at_call 49; refine (number_any _ _ hs).mono ?_; rintro e w1 ⟨rfl, hb1⟩)
        go_ret
        exact ⟨ret_bool rfl, hb1⟩
      · by_cases h4 : kind = 4
        · subst h4
          go_enter Try.func32, Try.ntmps32
          go_wp2_with (first | (go_at_call 16; refine (signs_any _).mono ?_; rintro e w' ⟨rfl, rfl⟩) | (go_at_call 48; refine (contains_any _ 21 _ signList _ _ rfl (by omega) (signs_cells _)).mono ?_; rintro e w' ⟨rfl, rfl⟩))
          go_ret
          exact ⟨ret_bool (by rw [right_is, memB_signs]; rfl), (Below.refl _ _).alloc (Nat.le_refl _) _⟩
        · have HF : Hid (rightB kind s.data.toList = false) := Lib.hid (by rw [right_is, if_neg h1, if_neg h2, if_neg h3, if_neg h4])
          go_enter Try.func32, Try.ntmps32
          go_wp2
          go_ret
          exact ⟨ret_bool HF.out.symm, Below.refl _ _⟩

set_option maxHeartbeats 1000000 in
theorem rright_any (kind : Int) (s : ByteArray) (w : World) (hs : s.size ≤ 1000000) :
    Calls Try.prog 33 #[.int .i64 kind, .string s] w fun e w' => e = .returned (.bool (rightB kind s.data.toList)) ∧ Below w.heap.size w w' := by
  by_cases h1 : kind = 1
  · subst h1
    go_enter Try.func33, Try.ntmps33
    go_wp2_with (go_at_call 50; refine (rname_any _ _ hs).mono ?_; rintro e w1 ⟨rfl, hb1⟩)
    go_ret
    exact ⟨ret_bool rfl, hb1⟩
  · by_cases h2 : kind = 2
    · subst h2
      go_enter Try.func33, Try.ntmps33
      go_wp2_with (first | (go_at_call 15; refine (rwords_any _).mono ?_; rintro e w' ⟨rfl, rfl⟩) | (go_at_call 51; refine (in_any _ 23 _ wordList _ _ rfl (by omega) (words_cells _)).mono ?_; rintro e w' ⟨rfl, rfl⟩))
      go_ret
      exact ⟨ret_bool (by rw [right_is, memB_words]; rfl), (Below.refl _ _).alloc (Nat.le_refl _) _⟩
    · by_cases h3 : kind = 3
      · subst h3
        go_enter Try.func33, Try.ntmps33
        go_wp2_with (go_at_call 52; refine (rnumber_any _ _ hs).mono ?_; rintro e w' ⟨rfl, rfl⟩)
        go_ret
        exact ⟨ret_bool rfl, Below.refl _ _⟩
      · by_cases h4 : kind = 4
        · subst h4
          go_enter Try.func33, Try.ntmps33
          go_wp2_with (first | (go_at_call 17; refine (rsigns_any _).mono ?_; rintro e w' ⟨rfl, rfl⟩) | (go_at_call 51; refine (in_any _ 21 _ signList _ _ rfl (by omega) (signs_cells _)).mono ?_; rintro e w' ⟨rfl, rfl⟩))
          go_ret
          exact ⟨ret_bool (by rw [right_is, memB_signs]; rfl), (Below.refl _ _).alloc (Nat.le_refl _) _⟩
        · have HF : Hid (rightB kind s.data.toList = false) := Lib.hid (by rw [right_is, if_neg h1, if_neg h2, if_neg h3, if_neg h4])
          go_enter Try.func33, Try.ntmps33
          go_wp2
          go_ret
          exact ⟨ret_bool HF.out.symm, Below.refl _ _⟩

set_option maxHeartbeats 1000000 in
theorem check_any (kind : Int) (s : ByteArray) (a : Int) (w : World) (hs : s.size ≤ 1000000) :
    Calls Try.prog 11 #[.agg #[.int .i64 kind, .string s, .int .i64 a]] w fun e w' => e = .returned (.int .i64 (checkE kind s.data.toList a)) ∧ Below w.heap.size w w' := by
  by_cases h1 : a < 0
  · have HF : Hid (checkE kind s.data.toList a = 340) := Lib.hid (if_pos (.inl h1))
    go_enter Try.func11, Try.ntmps11
    go_wp2
    go_ret
    exact ⟨ret_int HF.out.symm, (Below.refl _ _).alloc (Nat.le_refl _) _⟩
  · by_cases h2 : 20000 ≤ a
    · have HF : Hid (checkE kind s.data.toList a = 340) := Lib.hid (if_pos (.inr (.inl h2)))
      go_enter Try.func11, Try.ntmps11
      go_wp2
      go_ret
      exact ⟨ret_int HF.out.symm, (Below.refl _ _).alloc (Nat.le_refl _) _⟩
    · cases h3 : rightB kind s.data.toList
      · have HF : Hid (checkE kind s.data.toList a = 340) := Lib.hid (if_pos (.inr (.inr h3)))
        go_enter Try.func11, Try.ntmps11
        go_wp2_with (go_at_call 32; refine (right_any _ _ _ hs).mono ?_; rintro e w1 ⟨rfl, hb1⟩)
        go_ret
        exact ⟨ret_int HF.out.symm, ((Below.refl _ _).alloc (Nat.le_refl _) _).trans (hb1.mono (by simp))⟩
      · have HF : Hid (checkE kind s.data.toList a = 0) := Lib.hid (if_neg (by rw [h3]; simp; omega))
        go_enter Try.func11, Try.ntmps11
        go_wp2_with (go_at_call 32; refine (right_any _ _ _ hs).mono ?_; rintro e w1 ⟨rfl, hb1⟩)
        go_ret
        exact ⟨ret_int HF.out.symm, ((Below.refl _ _).alloc (Nat.le_refl _) _).trans (hb1.mono (by simp))⟩

set_option maxHeartbeats 1000000 in
theorem rcheck_any (kind : Int) (s : ByteArray) (a : Int) (w : World) (hs : s.size ≤ 1000000) :
    Calls Try.prog 12 #[.agg #[.int .i64 kind, .string s, .int .i64 a]] w fun e w' => e = .returned (.int .i64 (checkE kind s.data.toList a)) ∧ Below w.heap.size w w' := by
  by_cases h1 : a < 0
  · have HF : Hid (checkE kind s.data.toList a = 340) := Lib.hid (if_pos (.inl h1))
    go_enter Try.func12, Try.ntmps12
    go_wp2
    go_ret
    exact ⟨ret_int HF.out.symm, (Below.refl _ _).alloc (Nat.le_refl _) _⟩
  · by_cases h2 : 20000 ≤ a
    · have HF : Hid (checkE kind s.data.toList a = 340) := Lib.hid (if_pos (.inr (.inl h2)))
      go_enter Try.func12, Try.ntmps12
      go_wp2
      go_ret
      exact ⟨ret_int HF.out.symm, (Below.refl _ _).alloc (Nat.le_refl _) _⟩
    · cases h3 : rightB kind s.data.toList
      · have HF : Hid (checkE kind s.data.toList a = 340) := Lib.hid (if_pos (.inr (.inr h3)))
        go_enter Try.func12, Try.ntmps12
        go_wp2_with (go_at_call 33; refine (rright_any _ _ _ hs).mono ?_; rintro e w1 ⟨rfl, hb1⟩)
        go_ret
        exact ⟨ret_int HF.out.symm, ((Below.refl _ _).alloc (Nat.le_refl _) _).trans (hb1.mono (by simp))⟩
      · have HF : Hid (checkE kind s.data.toList a = 0) := Lib.hid (if_neg (by rw [h3]; simp; omega))
        go_enter Try.func12, Try.ntmps12
        go_wp2_with (go_at_call 33; refine (rright_any _ _ _ hs).mono ?_; rintro e w1 ⟨rfl, hb1⟩)
        go_ret
        exact ⟨ret_int HF.out.symm, ((Below.refl _ _).alloc (Nat.le_refl _) _).trans (hb1.mono (by simp))⟩
end Go.Proofs.Ytigppjgmfonodaa
