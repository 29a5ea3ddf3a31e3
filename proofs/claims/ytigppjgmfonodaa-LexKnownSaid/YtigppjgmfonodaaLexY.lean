/- LexScans: repeated, and the walk of the statement. -/
import Derived.Test.YtigppjgmfonodaaLexX
namespace Go.Proofs.Ytigppjgmfonodaa
open Go.RowKit

def repT (l : List UInt8) (n : Nat) : List UInt8 := (List.replicate n l).flatten
theorem repT_succ (l : List UInt8) (n : Nat) : repT l (n + 1) = repT l n ++ l := by
  unfold repT; rw [List.replicate_succ', List.flatten_append]; simp
theorem repT_len (l : List UInt8) (n : Nat) : (repT l n).length = n * l.length := by
  unfold repT; simp

set_option maxHeartbeats 1000000 in
theorem repeated_any (s : ByteArray) (n : Nat) (w : World) (hs : s.size ≤ 1000) (hn : n ≤ 1000) :
    Calls Try.prog 19 #[.string s, .int .i64 n] w fun e w' => e = .returned (.string (bytesOf (repT s.data.toList n))) ∧ Below w.heap.size w w' := by
  go_enter Try.func19, Try.ntmps19
  go_wp2
  go_loopw [5, 6] (fun out i wr => ∃ k : Nat, k ≤ n ∧ i = .int .i64 k ∧ wr.ownsRow w.heap.size 5 1 out (repT s.data.toList k).length (bCells (repT s.data.toList k)) ∧ Below w.heap.size w wr) (fun _ i _ => n - (intOf i).toNat)
  case atStart => exact ⟨0, Nat.zero_le _, rfl, World.ownsRow_nil _ _ _ _, Below.refl _ _⟩
  case round =>
    obtain ⟨k, hk, rfl, hrow, hB⟩ := hrel
    have HROW := Lib.hid hrow
    have HB := Lib.hid hB
    have hBs := hB.size
    have hjl : (repT s.data.toList k).length ≤ 1000000 := by
      rw [repT_len]
      have h1 : s.data.toList.length = s.size := by simp
      rw [h1]
      exact Nat.le_trans (Nat.mul_le_mul (Nat.le_trans hk hn) hs) (by omega)
    obtain ⟨j, hj⟩ : ∃ x, repT s.data.toList k = x := ⟨_, rfl⟩
    rw [hj] at HROW hjl hrow
    obtain ⟨pp, cap, rfl⟩ := ownsRow_form hrow
    have HJ := Lib.hid hj
    clear hrow hB hj
    by_cases hlt : k < n
    · obtain ⟨i0, hi, hz0, hz1, hz2⟩ := info_parts info_u8
      go_wp2_with (at_builtin; refine Lib.wpList_append_own_string _ rfl _ _ 24 9 rfl w.heap.size 5 i0 und_bytes und_str hi hz0 hz1 hz2 _ _ _ rfl HROW.out _ rfl (by simp [maxLen]; omega) (by omega) (by omega) ?_; intro v' w2 hown' hgrow _; have HO2 := Lib.hid hown'; have HG : Hid (Below w.heap.size w w2) := Lib.hid (HB.out.grown hgrow HB.out.size (fun b e => (HROW.out.lt b e).1)); clear hown' hgrow)
      go_roundw
      case rel =>
        refine ⟨k + 1, by omega, by go_num, ?_, HG.out⟩
        have h := HO2.out
        have el : (repT s.data.toList (k + 1)).length = j.length + s.size := by rw [repT_succ, HJ.out]; simp
        rw [el, repT_succ, HJ.out, bCells_append]
        exact h
      case measure => simp [intOf]; omega
    · obtain rfl : k = n := by omega
      have hcv := conv_own HROW.out
      go_wp2
      go_ret
      exact ⟨by rw [HJ.out]; rfl, HB.out⟩

theorem repeated_i (s : ByteArray) (n : Int) (w : World) (X : ByteArray) (hX : bytesOf (repT s.data.toList n.toNat) = X) (hs : s.size ≤ 1000) (h0 : 0 ≤ n) (hn : n ≤ 1000) :
    Calls Try.prog 19 #[.string s, .int .i64 n] w fun e w' => e = .returned (.string X) ∧ Below w.heap.size w w' := by
  obtain ⟨k, rfl⟩ := Int.eq_ofNat_of_zero_le h0
  rw [← hX]
  exact repeated_any s k w hs (by omega)

theorem scanG_len (n f : Nat) (l : List UInt8) (acc : List Tok) (h : acc.length ≤ 2000) : (scanG n f l acc).1.length ≤ 2000 := by
  induction f generalizing l acc with
  | zero => simpa [scanG] using h
  | succ f ih =>
    rw [scanG]
    split
    · exact h
    · split
      · simp
      · split
        · simp
        · rename_i h3
          exact ih _ _ (by rw [List.length_append]; simp; omega)
theorem scanT_len (l : List UInt8) : (scanT l).1.length ≤ 2000 := by
  unfold scanT
  split
  · simp
  · exact scanG_len _ _ _ _ (by simp)
theorem scanT_len1 (l : List UInt8) : ((scanT l).1.map Tok.z).length ≤ 1000000 := by
  have := scanT_len l
  simp; omega

/-- A slice of bytes that came in. -/
def BytesIn (w : World) (v : Value) (n : Nat) : Prop := ∃ (p : Option Addr) (cap : Nat), v = .slice p n cap ∧ n ≤ cap ∧ cap ≤ maxLen ∧ (0 < n → ∃ b o, p = some ⟨b, o, none⟩ ∧ ∀ j, j < n → ∃ c : UInt8, w.cell? ⟨b, o + j, none⟩ = some (.int .u8 c.toNat))

def someC : ByteArray := ⟨#[97, 98, 122, 95, 48, 49, 57, 32, 35, 10, 40, 41, 91, 93, 58, 59, 44, 124, 43, 45, 42, 47, 61, 39, 60, 62, 33, 46, 63, 65]⟩

theorem own_snoc {w : World} {base : Nat} {v : Value} {l : List UInt8} {x : UInt8} (h : w.ownsRow base 5 1 v (l.length + 1) (bCells l ++ [.int .u8 (x.toNat : Int)])) : ∃ l', l'.length = l.length + 1 ∧ w.ownsRow base 5 1 v l'.length (bCells l') :=
  ⟨l ++ [x], by simp, by rw [bCells_append]; simpa [bCells] using h⟩

set_option maxRecDepth 100000 in
set_option maxHeartbeats 4000000 in
theorem scans_walk (s : ByteArray) (v : Value) (n : Nat) (t : UInt8) (w : World) (hs : s.size ≤ maxLen) (hv : BytesIn w v n) :
    Calls Try.prog 4 #[.string s, v, .int .u8 t.toNat] w fun e w' => e = .returned (.bool true) ∧ Below w.heap.size w w' := by
  obtain ⟨p, cap, rfl, h1, h2, h3⟩ := hv
  unfold maxLen at hs h2
  have H3 := Lib.hid h3
  clear h3
  go_enter Try.func4, Try.ntmps4
  go_wp2
  go_loopw [7, 8] (fun out i wr => ∃ (k : Nat) (l : List UInt8), k ≤ n ∧ k ≤ 60 ∧ i = .int .i64 k ∧ l.length ≤ 60 ∧ l.length = k ∧ wr.ownsRow w.heap.size 5 1 out l.length (bCells l) ∧ Below w.heap.size w wr) (fun _ i _ => n - (intOf i).toNat)
  case atStart => exact ⟨0, [], Nat.zero_le _, by omega, rfl, by simp, rfl, World.ownsRow_nil _ _ _ _, Below.refl _ _⟩
  case round =>
    obtain ⟨k, l, hk, hk60, rfl, hl, hlk, hrow, hB⟩ := hrel
    have HROW := Lib.hid hrow
    have HB := Lib.hid hB
    have hBs := hB.size
    obtain ⟨pp, cap', rfl⟩ := ownsRow_form hrow
    have HLK := Lib.hid hlk
    clear hrow hB hlk
    by_cases hlt : k < n ∧ k < 60
    · obtain ⟨hlt1, hlt2⟩ := hlt
      obtain ⟨b, o, rfl, hc⟩ := H3.out (by omega)
      obtain ⟨c, hc⟩ := hc k hlt1
      have c0 := below_cell HB.out hc
      obtain ⟨i0, hi, hz0, hz1, hz2⟩ := info_parts info_u8
      have hc1 : (0 : Int) ≤ (c.toNat : Int) % 30 := by omega
      have hc2 : (c.toNat : Int) % 30 < 30 := by omega
      have hc3 : (c.toNat : Int) < 256 := by have := c.toNat_lt; omega
      clear hc
      go_wp2_with (at_builtin; refine wpList_append_own _ rfl _ _ 24 rfl w.heap.size 5 i0 (.int .u8 0) 1 1 und_bytes hi hz0 hz1 hz2 rfl (by decide) _ _ _ rfl (HROW.out.alloc _) ⟨wr.heap.size, 0, none⟩ 1 1 [_] rfl rfl (cells_new _ _ _) (by simp [Value.oneCell']) (by simp [maxLen]; omega) (by omega) (by simp; omega) ?_; intro v' w2 hown' hgrow _; have HO2 := Lib.hid (own_snoc hown'); have HG : Hid (Below w.heap.size w w2) := Lib.hid ((HB.out.alloc HB.out.size _).grown hgrow (Nat.le_trans HB.out.size (by simp)) (fun b e => (HROW.out.lt b e).1)); clear hown' hgrow)
      go_roundw
      case rel =>
        obtain ⟨l', hl', ho'⟩ := HO2.out
        exact ⟨k + 1, l', by omega, by omega, by go_num, by have := HLK.out; omega, by have := HLK.out; omega, ho', HG.out⟩
      case measure => simp [intOf]; omega
    · by_cases hlt1 : k < n
      · have hlt2 : 60 ≤ k := by omega
        have hdb : decide ((k : Int) < 60) = false := by simp; omega
        have hcv : ∀ x : Later wr, (convert 24 9 (.slice pp l.length cap')).run Try.prog x.world = .ok (.string (bytesOf l)) x.world := fun x => conv_own (ownsRow_below HROW.out x.below)
        have hz1 : ((bytesOf l).size : Int) ≤ 60 := by simp [bytesOf, ByteArray.size]; omega
        have hz2 : (0 : Int) ≤ t.toNat := by omega
        have hz3 : (t.toNat : Int) < 256 := by have := t.toNat_lt; omega
        have hz4 : (bytesOf l ++ (⟨#[32]⟩ : ByteArray)).size ≤ 1000 := by
          rw [ByteArray.size_append]
          have : (⟨#[32]⟩ : ByteArray).size = 1 := rfl
          omega
        have hz5 : (s.extract 0 (min (s.size : Int) 200).toNat).size ≤ 1000 := by rw [ByteArray.size_extract]; omega
        obtain ⟨X2, hX2⟩ : ∃ X, bytesOf (repT (bytesOf l ++ (⟨#[32]⟩ : ByteArray)).data.toList (t.toNat : Int).toNat) = X := ⟨_, rfl⟩
        obtain ⟨X3, hX3⟩ : ∃ X, bytesOf (repT (s.extract 0 (min (s.size : Int) 200).toNat).data.toList ((t.toNat : Int) % 40).toNat) = X := ⟨_, rfl⟩
        have HX2 := Lib.hid hX2
        have HX3 := Lib.hid hX3
        clear hX2 hX3
        go_wp2_with fail
        refine wp_region_later (by kernel_rfl) (by kernel_rfl) ?_
        repeat (go_big_quiet_step ((go_at_call 19; first | exact Calls.later_of (repeated_i _ _ _ X2 HX2.out hz4 (by omega) (by omega)) | exact Calls.later_of (repeated_i _ _ _ X3 HX3.out hz5 (by omega) (by omega)))))
        refine wpQuiet_nil ?_
        intro w3 hb3
        have HB3 := Lib.hid (HB.out.trans (hb3.mono HB.out.size))
        clear hb3 hcv hz1 hz2 hz3 hz4 hz5 HROW HB HLK
        have i0 : ∀ (x0 x1 x2 x3 : ByteArray) (W : World), (Instr.index 38 (.agg #[.string x0, .string x1, .string x2, .string x3]) (.int .i64 0)).run Try.prog W = .ok (.string x0) W := fun _ _ _ _ _ => by kernel_rfl
        have i1 : ∀ (x0 x1 x2 x3 : ByteArray) (W : World), (Instr.index 38 (.agg #[.string x0, .string x1, .string x2, .string x3]) (.int .i64 1)).run Try.prog W = .ok (.string x1) W := fun _ _ _ _ _ => by kernel_rfl
        have i2 : ∀ (x0 x1 x2 x3 : ByteArray) (W : World), (Instr.index 38 (.agg #[.string x0, .string x1, .string x2, .string x3]) (.int .i64 2)).run Try.prog W = .ok (.string x2) W := fun _ _ _ _ _ => by kernel_rfl
        have i3 : ∀ (x0 x1 x2 x3 : ByteArray) (W : World), (Instr.index 38 (.agg #[.string x0, .string x1, .string x2, .string x3]) (.int .i64 3)).run Try.prog W = .ok (.string x3) W := fun _ _ _ _ _ => by kernel_rfl
        go_wp2
        go_loopw [57] (fun i wr => ∃ k : Nat, k ≤ 4 ∧ i = .int .i64 k ∧ Below w.heap.size w wr) (fun i _ => 4 - (intOf i).toNat)
        case atStart => exact ⟨0, by omega, rfl, HB3.out⟩
        case round =>
          obtain ⟨j, hj, rfl, hBj⟩ := hrel
          have HBJ := Lib.hid hBj
          clear hBj HB3
          by_cases hj4 : j = 4
          · subst hj4
            go_wp2_with fail
            refine (works_any _).mono ?_
            rintro e w9 ⟨rfl, hb9⟩
            go_wp2
            go_ret
            exact ⟨rfl, HBJ.out.trans (hb9.mono HBJ.out.size)⟩
          · obtain hj0 | hj0 | hj0 | hj0 : j = 0 ∨ j = 1 ∨ j = 2 ∨ j = 3 := by omega
            all_goals
              subst hj0
              go_wp2_with fail
              refine (scan_any _ _).mono ?_
              rintro e w4 ⟨v4, rfl, ht4, hb4⟩
              have HT4 := Lib.hid (TokS.of_toks ht4)
              have HB4 := Lib.hid (HBJ.out.trans (hb4.mono HBJ.out.size))
              clear ht4 hb4
              go_wp2_with fail
              refine (rscan_any _ _).mono ?_
              rintro e w5 ⟨v5, rfl, ht5, hb5⟩
              have HT5 := Lib.hid (TokS.of_toks ht5)
              have HT4' := Lib.hid (HT4.out.below hb5)
              have HB5 := Lib.hid (HB4.out.trans (hb5.mono HB4.out.size))
              clear ht5 hb5
              go_wp2_with fail
              refine (rsame_pos _ _ _ _ HT4'.out HT5.out (scanT_len1 _)).mono ?_
              rintro e w6 ⟨rfl, hb6⟩
              have HB6 := Lib.hid (HB5.out.trans (hb6.mono HB5.out.size))
              clear hb6 HT4 HT4' HT5 HB4 HB5
              go_wp2
              go_roundw
              case rel => first | exact ⟨1, by omega, rfl, HB6.out⟩ | exact ⟨2, by omega, rfl, HB6.out⟩ | exact ⟨3, by omega, rfl, HB6.out⟩ | exact ⟨4, by omega, rfl, HB6.out⟩
              case measure => simp [intOf]
      · have hlt2 : n ≤ k := by omega
        have hcv : ∀ x : Later wr, (convert 24 9 (.slice pp l.length cap')).run Try.prog x.world = .ok (.string (bytesOf l)) x.world := fun x => conv_own (ownsRow_below HROW.out x.below)
        have hz1 : ((bytesOf l).size : Int) ≤ 60 := by simp [bytesOf, ByteArray.size]; omega
        have hz2 : (0 : Int) ≤ t.toNat := by omega
        have hz3 : (t.toNat : Int) < 256 := by have := t.toNat_lt; omega
        have hz4 : (bytesOf l ++ (⟨#[32]⟩ : ByteArray)).size ≤ 1000 := by
          rw [ByteArray.size_append]
          have : (⟨#[32]⟩ : ByteArray).size = 1 := rfl
          omega
        have hz5 : (s.extract 0 (min (s.size : Int) 200).toNat).size ≤ 1000 := by rw [ByteArray.size_extract]; omega
        obtain ⟨X2, hX2⟩ : ∃ X, bytesOf (repT (bytesOf l ++ (⟨#[32]⟩ : ByteArray)).data.toList (t.toNat : Int).toNat) = X := ⟨_, rfl⟩
        obtain ⟨X3, hX3⟩ : ∃ X, bytesOf (repT (s.extract 0 (min (s.size : Int) 200).toNat).data.toList ((t.toNat : Int) % 40).toNat) = X := ⟨_, rfl⟩
        have HX2 := Lib.hid hX2
        have HX3 := Lib.hid hX3
        clear hX2 hX3
        go_wp2_with fail
        refine wp_region_later (by kernel_rfl) (by kernel_rfl) ?_
        repeat (go_big_quiet_step ((go_at_call 19; first | exact Calls.later_of (repeated_i _ _ _ X2 HX2.out hz4 (by omega) (by omega)) | exact Calls.later_of (repeated_i _ _ _ X3 HX3.out hz5 (by omega) (by omega)))))
        refine wpQuiet_nil ?_
        intro w3 hb3
        have HB3 := Lib.hid (HB.out.trans (hb3.mono HB.out.size))
        clear hb3 hcv hz1 hz2 hz3 hz4 hz5 HROW HB HLK
        have i0 : ∀ (x0 x1 x2 x3 : ByteArray) (W : World), (Instr.index 38 (.agg #[.string x0, .string x1, .string x2, .string x3]) (.int .i64 0)).run Try.prog W = .ok (.string x0) W := fun _ _ _ _ _ => by kernel_rfl
        have i1 : ∀ (x0 x1 x2 x3 : ByteArray) (W : World), (Instr.index 38 (.agg #[.string x0, .string x1, .string x2, .string x3]) (.int .i64 1)).run Try.prog W = .ok (.string x1) W := fun _ _ _ _ _ => by kernel_rfl
        have i2 : ∀ (x0 x1 x2 x3 : ByteArray) (W : World), (Instr.index 38 (.agg #[.string x0, .string x1, .string x2, .string x3]) (.int .i64 2)).run Try.prog W = .ok (.string x2) W := fun _ _ _ _ _ => by kernel_rfl
        have i3 : ∀ (x0 x1 x2 x3 : ByteArray) (W : World), (Instr.index 38 (.agg #[.string x0, .string x1, .string x2, .string x3]) (.int .i64 3)).run Try.prog W = .ok (.string x3) W := fun _ _ _ _ _ => by kernel_rfl
        go_wp2
        go_loopw [57] (fun i wr => ∃ k : Nat, k ≤ 4 ∧ i = .int .i64 k ∧ Below w.heap.size w wr) (fun i _ => 4 - (intOf i).toNat)
        case atStart => exact ⟨0, by omega, rfl, HB3.out⟩
        case round =>
          obtain ⟨j, hj, rfl, hBj⟩ := hrel
          have HBJ := Lib.hid hBj
          clear hBj HB3
          by_cases hj4 : j = 4
          · subst hj4
            go_wp2_with fail
            refine (works_any _).mono ?_
            rintro e w9 ⟨rfl, hb9⟩
            go_wp2
            go_ret
            exact ⟨rfl, HBJ.out.trans (hb9.mono HBJ.out.size)⟩
          · obtain hj0 | hj0 | hj0 | hj0 : j = 0 ∨ j = 1 ∨ j = 2 ∨ j = 3 := by omega
            all_goals
              subst hj0
              go_wp2_with fail
              refine (scan_any _ _).mono ?_
              rintro e w4 ⟨v4, rfl, ht4, hb4⟩
              have HT4 := Lib.hid (TokS.of_toks ht4)
              have HB4 := Lib.hid (HBJ.out.trans (hb4.mono HBJ.out.size))
              clear ht4 hb4
              go_wp2_with fail
              refine (rscan_any _ _).mono ?_
              rintro e w5 ⟨v5, rfl, ht5, hb5⟩
              have HT5 := Lib.hid (TokS.of_toks ht5)
              have HT4' := Lib.hid (HT4.out.below hb5)
              have HB5 := Lib.hid (HB4.out.trans (hb5.mono HB4.out.size))
              clear ht5 hb5
              go_wp2_with fail
              refine (rsame_pos _ _ _ _ HT4'.out HT5.out (scanT_len1 _)).mono ?_
              rintro e w6 ⟨rfl, hb6⟩
              have HB6 := Lib.hid (HB5.out.trans (hb6.mono HB5.out.size))
              clear hb6 HT4 HT4' HT5 HB4 HB5
              go_wp2
              go_roundw
              case rel => first | exact ⟨1, by omega, rfl, HB6.out⟩ | exact ⟨2, by omega, rfl, HB6.out⟩ | exact ⟨3, by omega, rfl, HB6.out⟩ | exact ⟨4, by omega, rfl, HB6.out⟩
              case measure => simp [intOf]
end Go.Proofs.Ytigppjgmfonodaa
