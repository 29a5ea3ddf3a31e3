/- The walk of LexKnown. -/
import Derived.Test.YtigppjgmfonodaaKn
import Derived.Test.YtigppjgmfonodaaApp
import Derived.Test.YtigppjgmfonodaaLexBk
import Derived.Test.YtigppjgmfonodaaLexChk
import Derived.Deep.DeepCutAuto
import Derived.Deep.CutBlock
import Derived.Deep.RegionHeld3
namespace Go.Proofs.Ytigppjgmfonodaa
open Go.RowKit

theorem word_facts (j : Nat) (hj : j < 23) (X : ByteArray) (hX : wordList.getD j ByteArray.empty = X) :
    givesB X.data.toList ([⟨#[50]⟩ ++ X].map (·.data.toList)) = true ∧ givesB (X ++ ⟨#[120]⟩).data.toList ([⟨#[49]⟩ ++ X ++ ⟨#[120]⟩].map (·.data.toList)) = true ∧ checkE 1 X.data.toList 0 = 340 ∧ X.size ≤ 8 := by
  have h : (wordList.all fun X => givesB X.data.toList ([⟨#[50]⟩ ++ X].map (·.data.toList)) && givesB (X ++ ⟨#[120]⟩).data.toList ([⟨#[49]⟩ ++ X ++ ⟨#[120]⟩].map (·.data.toList)) && (checkE 1 X.data.toList 0 == 340) && decide (X.size ≤ 8)) = true := by decide +kernel
  have hl : wordList.length = 23 := by decide
  have hm := List.all_eq_true.1 h X (by rw [← hX, List.getD, List.getElem?_eq_getElem (by omega)]; exact List.getElem_mem _)
  simp only [Bool.and_eq_true, beq_iff_eq, decide_eq_true_eq] at hm
  exact ⟨hm.1.1.1, hm.1.1.2, hm.1.2, hm.2⟩
theorem sign_facts (j : Nat) (hj : j < 21) (X : ByteArray) (hX : signList.getD j ByteArray.empty = X) :
    givesB X.data.toList ([⟨#[52]⟩ ++ X].map (·.data.toList)) = true ∧ givesB (⟨#[97]⟩ ++ X ++ ⟨#[97]⟩).data.toList ([⟨#[49, 97]⟩, ⟨#[52]⟩ ++ X, ⟨#[49, 97]⟩].map (·.data.toList)) = true ∧ X.size ≤ 8 := by
  have h : (signList.all fun X => givesB X.data.toList ([⟨#[52]⟩ ++ X].map (·.data.toList)) && givesB (⟨#[97]⟩ ++ X ++ ⟨#[97]⟩).data.toList ([⟨#[49, 97]⟩, ⟨#[52]⟩ ++ X, ⟨#[49, 97]⟩].map (·.data.toList)) && decide (X.size ≤ 8)) = true := by decide +kernel
  have hl : signList.length = 21 := by decide
  have hm := List.all_eq_true.1 h X (by rw [← hX, List.getD, List.getElem?_eq_getElem (by omega)]; exact List.getElem_mem _)
  simp only [Bool.and_eq_true, decide_eq_true_eq] at hm
  exact ⟨hm.1.1, hm.1.2, hm.2⟩

theorem gives_lit_d (w : World) (s : ByteArray) (ls : List ByteArray) (t : TypeId) (hl : ls.length ≤ 1000000) (hg : givesB s.data.toList (ls.map (·.data.toList)) = true) :
    Calls Try.prog 28 #[.string s, .slice (some ⟨w.heap.size, 0, none⟩) ls.length ls.length] (w.alloc (.cells (ls.map Value.string).toArray t)).drew fun e w' => e = .returned (.bool true) ∧ Below w.heap.size w w' :=
  (gives_pos _ s _ ls ((ListS.lit Value.string w ls t hl).below (Below.refl _ _).drew) hg).mono fun _ _ ⟨he, hb⟩ => ⟨he, (((Below.refl _ _).alloc (Nat.le_refl _) _).drew).trans (hb.mono (by simp))⟩

theorem gives1 (w : World) (s : ByteArray) (x : ByteArray) (t : TypeId) (hg : givesB s.data.toList ([x].map (·.data.toList)) = true) :
    Calls Try.prog 28 #[.string s, .slice (some ⟨w.heap.size, 0, none⟩) 1 1] (w.alloc (.cells #[.string x] t)) fun e w' => e = .returned (.bool true) ∧ Below w.heap.size w w' := gives_lit w s [x] t (by simp) hg
theorem gives1_d (w : World) (s : ByteArray) (x : ByteArray) (t : TypeId) (hg : givesB s.data.toList ([x].map (·.data.toList)) = true) :
    Calls Try.prog 28 #[.string s, .slice (some ⟨w.heap.size, 0, none⟩) 1 1] (w.alloc (.cells #[.string x] t)).drew fun e w' => e = .returned (.bool true) ∧ Below w.heap.size w w' := gives_lit_d w s [x] t (by simp) hg
theorem gives3 (w : World) (s : ByteArray) (x y z : ByteArray) (t : TypeId) (hg : givesB s.data.toList ([x, y, z].map (·.data.toList)) = true) :
    Calls Try.prog 28 #[.string s, .slice (some ⟨w.heap.size, 0, none⟩) 3 3] (w.alloc (.cells #[.string x, .string y, .string z] t)) fun e w' => e = .returned (.bool true) ∧ Below w.heap.size w w' := gives_lit w s [x, y, z] t (by simp) hg
theorem gives3_d (w : World) (s : ByteArray) (x y z : ByteArray) (t : TypeId) (hg : givesB s.data.toList ([x, y, z].map (·.data.toList)) = true) :
    Calls Try.prog 28 #[.string s, .slice (some ⟨w.heap.size, 0, none⟩) 3 3] (w.alloc (.cells #[.string x, .string y, .string z] t)).drew fun e w' => e = .returned (.bool true) ∧ Below w.heap.size w w' := gives_lit_d w s [x, y, z] t (by simp) hg
theorem rep_lit (s : ByteArray) (c : Nat) (z : Int) (w : World) (hz : (c : Int) = z) (hc : c ≤ 9223372036854775807) (hlen : s.size * c ≤ 140737488355328) :
    Calls Try.prog 30 #[.string s, .int .i64 z] w fun e w' => ∃ X : ByteArray, e = .returned (.string X) ∧ X.data.toList = Lib.repeatL s.data.toList c ∧ X.size = c * s.size ∧ Below w.heap.size w w' := by
  subst hz
  refine (Try.strings_Repeat s c w hc hlen).mono fun e w' ⟨he, hb⟩ => ⟨⟨(Lib.repeatL s.data.toList c).toArray⟩, he, by simp, ?_, hb⟩
  show (Lib.repeatL s.data.toList c).length = c * s.size
  rw [Lib.repeatL_length, Array.length_toList]
  rfl
theorem scan_full (X : ByteArray) (w : World) (hX : X.data.toList = Lib.repeatL [97, 32] 2000) :
    Calls Try.prog 20 #[.string X] w fun e w' => ∃ p c, e = .returned (.tuple #[.slice p 2000 c, .int .i64 0, .int .i64 0]) ∧ Below w.heap.size w w' := by
  refine (scan_any X w).mono fun e w' ⟨v, he, ht, hb⟩ => ?_
  obtain ⟨l, hl, hs⟩ := many_full
  rw [hX, hs] at he ht
  obtain ⟨p, c, rfl⟩ := ownsRow_form ht
  subst he
  exact ⟨p, c, by rw [hl]; rfl, hb⟩
theorem scan_none (X : ByteArray) (w : World) (k : Nat) (z n : Int) (hX : scanT X.data.toList = ([], k, n)) (hz : (k : Int) = z) :
    Calls Try.prog 20 #[.string X] w fun e w' => ∃ p c, e = .returned (.tuple #[.slice p 0 c, .int .i64 z, .int .i64 n]) ∧ Below w.heap.size w w' := by
  refine (scan_any X w).mono fun e w' ⟨v, he, ht, hb⟩ => ?_
  rw [hX] at he ht
  obtain ⟨p, c, rfl⟩ := ownsRow_form ht
  subst he hz
  exact ⟨p, c, rfl, hb⟩
theorem add_list (X Y : ByteArray) (l m : List UInt8) (h : X.data.toList = l) (h2 : Y.data.toList = m) : (X ++ Y).data.toList = l ++ m := by
  rw [← h, ← h2]; simp
theorem scan_over (X : ByteArray) (hX : X.data.toList = Lib.repeatL [97, 32] 2000) : scanT (X ++ ⟨#[32, 98]⟩).data.toList = ([], 4001, 3) := by
  rw [add_list X ⟨#[32, 98]⟩ _ [32, 98] hX rfl]; exact many_over
theorem scan_bad (X : ByteArray) (hX : X.data.toList = Lib.repeatL [97, 32] 2000) : scanT (X ++ ⟨#[63]⟩).data.toList = ([], 4000, 340) := by
  rw [add_list X ⟨#[63]⟩ _ [63] hX rfl]; exact many_bad
theorem scan_blank (X : ByteArray) (hX : X.data.toList = Lib.repeatL [32] 20001) : scanT X.data.toList = ([], 0, 3) := by rw [hX]; exact blank_over
theorem scan_blank0 (X : ByteArray) (hX : X.data.toList = Lib.repeatL [32] 20000) : scanT X.data.toList = ([], 0, 0) := by rw [hX]; exact blank_full

/-- A block that reads as n times one token. -/
def RowToks (C : Array Value) (n : Nat) (t : ZTok) : Prop := ∀ j, j < n → C[j * 3]? = some (.int .i64 t.kind) ∧ C[j * 3 + 1]? = some (.string (bytesOf t.text)) ∧ C[j * 3 + 2]? = some (.int .i64 t.pos)
def RowAt (w : World) (g : Nat) (C : Array Value) : Prop := w.heap[g]? = some (.cells C 23 (0, 0))
theorem RowAt.cell {w : World} {g : Nat} {C : Array Value} (h : RowAt w g C) (i : Nat) : w.cell? ⟨g, i, none⟩ = C[i]? := by unfold RowAt at h; simp [World.cell?, h]
theorem RowAt.frozen {w : World} {g : Nat} {C : Array Value} (h : RowAt w g C) (i : Nat) : w.frozen? ⟨g, i, none⟩ = false := by unfold RowAt at h; simp [World.frozen?, h]
theorem RowAt.set_ {w : World} {g : Nat} {C : Array Value} (h : RowAt w g C) (i : Nat) (u : Value) : RowAt (w.setCell ⟨g, i, none⟩ u) g (C.setIfInBounds i u) := by
  unfold RowAt at h ⊢
  simp [World.setCell, Array.getElem?_modify, h]
theorem RowAt.lt {w : World} {g : Nat} {C : Array Value} (h : RowAt w g C) : g < w.heap.size := lt_some h
theorem RowAt.toks {w : World} {g : Nat} {C : Array Value} (h : RowAt w g C) {n k cap : Nat} {t : ZTok} (hr : RowToks C n t) (hk : k ≤ n) (hc : n ≤ cap) (hc2 : cap ≤ 100000) : TokS w (.slice (some ⟨g, 0, none⟩) k cap) (List.replicate k t) := by
  refine ⟨_, cap, by rw [List.length_replicate], by rw [List.length_replicate]; omega, by omega, fun _ => ⟨g, 0, rfl, fun j u hu => ?_⟩⟩
  rw [List.getElem?_replicate] at hu
  split at hu
  · cases hu
    obtain ⟨h1, h2, h3⟩ := hr j (by omega)
    simp only [Nat.zero_add]
    exact ⟨(h.cell _).trans h1, (h.cell _).trans h2, (h.cell _).trans h3⟩
  · cases hu
def putTok (C : Array Value) (k : Nat) : Array Value := ((C.setIfInBounds (k * 3) (.int .i64 1)).setIfInBounds (k * 3 + 1) (.string ⟨#[97, 98, 99, 100, 101, 102, 103, 104, 105, 106, 107, 108]⟩)).setIfInBounds (k * 3 + 2) (.int .i64 0)
theorem putTok_toks {C : Array Value} {k : Nat} (h : RowToks C k lTok) (hs : C.size = 4800) (hk : k < 1600) : RowToks (putTok C k) (k + 1) lTok := by
  intro j hj
  unfold putTok
  simp only [Array.getElem?_setIfInBounds, Array.size_setIfInBounds, hs]
  rcases Nat.lt_or_ge j k with hjk | hjk
  · obtain ⟨h0, h1, h2⟩ := h j hjk
    rw [if_neg (by omega), if_neg (by omega), if_neg (by omega), if_neg (by omega), if_neg (by omega), if_neg (by omega), if_neg (by omega), if_neg (by omega), if_neg (by omega)]
    exact ⟨h0, h1, h2⟩
  · obtain rfl : j = k := by omega
    rw [if_neg (by omega), if_neg (by omega), if_pos rfl, if_pos (by omega), if_neg (by omega), if_pos rfl, if_pos (by omega), if_pos rfl, if_pos (by omega)]
    exact ⟨rfl, rfl, rfl⟩
theorem mk_toks (n : Nat) (z : Int) (hz : (n : Int) = z) (hn : n ≤ 10000) : ∃ C : Array Value, C.size = n * 3 ∧ RowToks C n zTok ∧ ∀ w : World, (Instr.makeSlice 39 (.int .i64 z) (.int .i64 z)).run Try.prog w = .ok (.slice (some ⟨w.heap.size, 0, none⟩) n n) (w.alloc (.cells C 23)) := by
  obtain ⟨i0, hi, hz0, hz1, hz2⟩ := info_parts info_tok
  subst hz
  refine ⟨madeCells #[.int .i64 0, .string ⟨#[]⟩, .int .i64 0] (n * 3), size_madeCells _ _, ?_, fun w => ?_⟩
  · intro j hj
    have key : ∀ c, c < 3 → (madeCells #[.int .i64 0, .string ⟨#[]⟩, .int .i64 0] (n * 3))[j * 3 + c]? = some (#[Value.int .i64 0, .string ⟨#[]⟩, .int .i64 0][c]!) := by
      intro c hc
      unfold madeCells
      rw [Array.getElem?_map, Array.getElem?_range, if_pos (by omega)]
      have e : (j * 3 + c) % 3 = c := by omega
      simp only [Option.map_some, List.size_toArray, List.length_cons, List.length_nil, Nat.zero_add, Nat.reduceAdd, e]
    exact ⟨key 0 (by omega), key 1 (by omega), key 2 (by omega)⟩
  · have h := Go.run_make (P := Try.prog) w 39 23 i0 _ und_toks hi hz0 .i64 .i64 n n (by omega) (Int.le_refl _) (by rw [hz2]; omega) (by omega)
    rw [h, hz1]
    rfl
theorem print_res (v : Value) (l : List ZTok) (X : List UInt8) (z : Int) (w : World) (hT : TokS w v l) (hs : ∀ t ∈ l, t.text.length ≤ 1000) (hR : printZ l = (X, z)) :
    Calls Try.prog 23 #[v] w fun e w' => e = .returned (.tuple #[.string (bytesOf X), .int .i64 z]) ∧ Below w.heap.size w w' :=
  (print_any w v l hT hs).mono fun e w' ⟨he, hb⟩ => ⟨by rw [he, hR], hb⟩
theorem print_full (v : Value) (w : World) (hT : TokS w v (List.replicate 1538 lTok)) :
    Calls Try.prog 23 #[v] w fun e w' => ∃ S : ByteArray, e = .returned (.tuple #[.string S, .int .i64 0]) ∧ (S.size : Int) = 19993 ∧ Below w.heap.size w w' := by
  obtain ⟨l, hl, hR⟩ := longs_full
  refine (print_res v _ l 0 w hT (fun t ht => by rw [List.eq_of_mem_replicate ht]; decide) hR).mono fun e w' ⟨he, hb⟩ => ⟨_, he, ?_, hb⟩
  rw [bytesOf_size, hl]; rfl
theorem check_res (kd : Int) (s : ByteArray) (n : Int) (w : World) (z : Int) (hs : s.size ≤ 1000000) (h : checkE kd s.data.toList n = z) : Calls Try.prog 11 #[.agg #[.int .i64 kd, .string s, .int .i64 n]] w fun e w' => e = .returned (.int .i64 z) ∧ Below w.heap.size w w' := by rw [← h]; exact check_any kd s n w hs
theorem known1 (n : Int) (w : World) (z : Int) (h : checkE 3 [48] n = z) : Calls Try.prog 29 #[.int .i64 n] w fun e w' => e = .returned (.int .i64 z) ∧ Below w.heap.size w w' := by
  go_enter Try.func29, Try.ntmps29
  go_wp2_with fail
  refine (check_any 3 ⟨#[48]⟩ n w (by decide)).mono ?_
  rintro e w' ⟨rfl, hb⟩
  rw [show (⟨#[48]⟩ : ByteArray).data.toList = [48] from rfl, h]
  go_wp2
  go_ret
  exact ⟨rfl, hb⟩

set_option maxRecDepth 100000 in
set_option maxHeartbeats 4000000 in
theorem known_walk (w : World) : Calls Try.prog 9 #[] w fun e w' => e = .returned (.bool true) ∧ Below w.heap.size w w' := by
  go_enter Try.func9, Try.ntmps9
  go_wp2_with fail
  refine (works_any _).mono ?_
  rintro e w0 ⟨rfl, hb0⟩
  have HB0 := Lib.hid hb0
  clear hb0
  go_upto_block 0 with (first | (go_at_call 14; refine (words_any _).mono ?_; rintro e w' ⟨rfl, rfl⟩) | (go_at_call 16; refine (signs_any _).mono ?_; rintro e w' ⟨rfl, rfl⟩))
  refine at_world (R := Code.wp _ _ _ _) (F := fun w1 => (∀ j, j < 23 → w1.cell? ⟨w0.heap.size, j, none⟩ = some (.string (wordList.getD j ByteArray.empty))) ∧ (∀ j, j < 21 → w1.cell? ⟨w0.heap.size + 1, j, none⟩ = some (.string (signList.getD j ByteArray.empty))) ∧ Below w0.heap.size w0 w1) ⟨?_, ?_, ?_⟩ ?_
  · intro j hj
    exact heap_alloc_cell (words_cells w0 j hj)
  · intro j hj
    have h := signs_cells (w0.alloc (.cells wordCells 9)) j hj
    rwa [World.size_alloc] at h
  · exact ((Below.refl _ _).alloc (Nat.le_refl _) _).alloc (by simp) _
  rintro w1 ⟨hwords, hsigns, hb1⟩
  have HWD := Lib.hid hwords
  have HSG := Lib.hid hsigns
  have HB1 := Lib.hid (HB0.out.trans (hb1.mono HB0.out.size))
  clear hwords hsigns hb1 HB0
  go_cut [] (fun wc => Below w1.heap.size w1 wc)
  case first =>
    go_wp2_with fail
    go_loopw [3] (fun i wr => ∃ k : Nat, k ≤ 23 ∧ i = .int .i64 k ∧ Below w1.heap.size w1 wr) (fun i _ => 23 - (intOf i).toNat)
    case atStart => exact ⟨0, by omega, rfl, Below.refl _ _⟩
    case round =>
      obtain ⟨k, hk, rfl, hB⟩ := hrel
      have HB := Lib.hid hB
      by_cases hlt : k < 23
      · have p := below_cell hB (HWD.out k hlt)
        obtain ⟨X, hX⟩ : ∃ X, wordList.getD k ByteArray.empty = X := ⟨_, rfl⟩
        rw [hX] at p
        have HF := Lib.hid (word_facts k hlt X hX)
        have hXs := HF.out.2.2.2
        have n1 : ¬ (9223372036854775807 < 1 + X.size) := by omega
        have n2 : ¬ (9223372036854775807 < X.size + 1) := by omega
        have n3 : ¬ (9223372036854775807 < 1 + X.size + 1) := by omega
        clear hX hB
        go_wp2_with fail
        go_region_held3 (fun w' => w'.cell? ⟨w0.heap.size, k, none⟩ = some (.string X)) (first | assumption | go_keep) (first
          | (go_at_call 28; (with_reducible refine (gives1_d _ X (⟨#[50]⟩ ++ X) _ HF.out.1).mono ?_); rintro e w2 ⟨rfl, hb2⟩; have p2 := below_cell hb2 p; have G2 := Lib.hid (HB.out.trans (hb2.mono HB.out.size)); clear hb2)
          | (go_at_call 28; (with_reducible refine (gives1_d _ (X ++ ⟨#[120]⟩) (⟨#[49]⟩ ++ X ++ ⟨#[120]⟩) _ HF.out.2.1).mono ?_); rintro e w3 ⟨rfl, hb3⟩; have p3 := below_cell hb3 p2; have G3 := Lib.hid (G2.out.trans (hb3.mono G2.out.size)); clear hb3)
          | (go_at_call 28; (with_reducible refine (gives1 _ (X ++ ⟨#[120]⟩) (⟨#[49]⟩ ++ X ++ ⟨#[120]⟩) _ HF.out.2.1).mono ?_); rintro e w3 ⟨rfl, hb3⟩; have p3 := below_cell hb3 p2; have G3 := Lib.hid (G2.out.trans (hb3.mono G2.out.size)); clear hb3)
          | (go_at_call 11; refine (check_any _ _ _ _ (by omega)).mono ?_; rintro e w4 ⟨rfl, hb4⟩; have p4 := below_cell hb4 p3; have G4 := Lib.hid (G3.out.trans (hb4.mono G3.out.size)); clear hb4))
        all_goals (
          have hc4 := HF.out.2.2.1
          rw [hc4]
          clear hc4
          go_wp2
          go_roundw
          case rel => exact ⟨k + 1, by omega, by go_num, G4.out⟩
          case measure => simp [intOf]; omega)
      · obtain rfl : k = 23 := by omega
        clear hB
        go_wp2_with fail
        go_meet
        exact HB.out
  case rest =>
    have HB := Lib.hid hcut
    clear hcut
    go_upto_block 2 with fail
    go_cut [] (fun wx => Below w1.heap.size w1 wx)
    case first =>
      go_wp2_with fail
      go_loopw [4] (fun i wr => ∃ k : Nat, k ≤ 21 ∧ i = .int .i64 k ∧ Below w1.heap.size w1 wr) (fun i _ => 21 - (intOf i).toNat)
      case atStart => exact ⟨0, by omega, rfl, HB.out⟩
      case round =>
        obtain ⟨k, hk, rfl, hB⟩ := hrel
        clear HB
        have HB := Lib.hid hB
        by_cases hlt : k < 21
        · have p := below_cell hB (HSG.out k hlt)
          obtain ⟨X, hX⟩ : ∃ X, signList.getD k ByteArray.empty = X := ⟨_, rfl⟩
          rw [hX] at p
          have HF := Lib.hid (sign_facts k hlt X hX)
          have hXs := HF.out.2.2
          have n1 : ¬ (9223372036854775807 < 1 + X.size) := by omega
          have n2 : ¬ (9223372036854775807 < X.size + 1) := by omega
          have n3 : ¬ (9223372036854775807 < 1 + X.size + 1) := by omega
          clear hX hB
          go_wp2_with fail
          go_region_held3 (fun w' => w'.cell? ⟨w0.heap.size + 1, k, none⟩ = some (.string X)) (first | assumption | go_keep) (first
            | (go_at_call 28; (with_reducible refine (gives1_d _ X (⟨#[52]⟩ ++ X) _ HF.out.1).mono ?_); rintro e w2 ⟨rfl, hb2⟩; have p2 := below_cell hb2 p; have G2 := Lib.hid (HB.out.trans (hb2.mono HB.out.size)); clear hb2)
            | (go_at_call 28; (with_reducible refine (gives3_d _ (⟨#[97]⟩ ++ X ++ ⟨#[97]⟩) ⟨#[49, 97]⟩ (⟨#[52]⟩ ++ X) ⟨#[49, 97]⟩ _ HF.out.2.1).mono ?_); rintro e w3 ⟨rfl, hb3⟩; have p3 := below_cell hb3 p2; have G3 := Lib.hid (G2.out.trans (hb3.mono G2.out.size)); clear hb3)
            | (go_at_call 28; (with_reducible refine (gives3 _ (⟨#[97]⟩ ++ X ++ ⟨#[97]⟩) ⟨#[49, 97]⟩ (⟨#[52]⟩ ++ X) ⟨#[49, 97]⟩ _ HF.out.2.1).mono ?_); rintro e w3 ⟨rfl, hb3⟩; have p3 := below_cell hb3 p2; have G3 := Lib.hid (G2.out.trans (hb3.mono G2.out.size)); clear hb3))
          all_goals (
            go_wp2
            go_roundw
            case rel => exact ⟨k + 1, by omega, by go_num, G3.out⟩
            case measure => simp [intOf]; omega)
        · obtain rfl : k = 21 := by omega
          clear hB
          go_wp2_with fail
          go_meet
          exact HB.out
    case rest =>
      have HC := Lib.hid (HB1.out.trans (hcut.mono HB1.out.size))
      clear hcut HB HB1 HWD HSG
      go_wp2_with fail
      refine (rep_lit ⟨#[97, 32]⟩ 2000 2000 _ rfl (by omega) (by decide)).mono ?_
      rintro e w2 ⟨X, rfl, hX, -, hb2⟩
      have H2 := Lib.hid (HC.out.trans (hb2.mono HC.out.size))
      have HX := Lib.hid hX
      clear hb2 HC hX
      go_wp2_with fail
      refine (scan_full X _ HX.out).mono ?_
      rintro e w3 ⟨p3, c3, rfl, hb3⟩
      have H3 := Lib.hid (H2.out.trans (hb3.mono H2.out.size))
      clear hb3 H2 HX
      go_wp2_with fail
      refine (rep_lit ⟨#[97, 32]⟩ 2000 2000 _ rfl (by omega) (by decide)).mono ?_
      rintro e w4 ⟨X4, rfl, hX, hz, hb4⟩
      have hz4 : X4.size ≤ 4000 := by rw [hz]; decide
      have n1 : ¬ (9223372036854775807 < X4.size + 2) := by omega
      have H4 := Lib.hid (H3.out.trans (hb4.mono H3.out.size))
      have HX4 := Lib.hid hX
      clear hb4 H3 hX hz
      go_wp2_with fail
      have q1 := scan_over X4 HX4.out
      have q2 := scan_none (X4 ++ ⟨#[32, 98]⟩) w4 4001 4001 3 q1 rfl
      clear q1
      refine q2.mono ?_
      clear q2
      rintro e w5 ⟨p5, c5, rfl, hb5⟩
      have H5 := Lib.hid (H4.out.trans (hb5.mono H4.out.size))
      clear hb5 H4 HX4 hz4 n1
      go_wp2_with fail
      refine (rep_lit ⟨#[32]⟩ 20001 20001 _ rfl (by omega) (by decide)).mono ?_
      rintro e w6 ⟨X6, rfl, hX, -, hb6⟩
      have H6 := Lib.hid (H5.out.trans (hb6.mono H5.out.size))
      have HX6 := Lib.hid hX
      clear hb6 H5 hX
      go_wp2_with fail
      have q1 := scan_blank X6 HX6.out
      have q2 := scan_none X6 w6 0 0 3 q1 rfl
      clear q1
      refine q2.mono ?_
      clear q2
      rintro e w7 ⟨p7, c7, rfl, hb7⟩
      have H7 := Lib.hid (H6.out.trans (hb7.mono H6.out.size))
      clear hb7 H6 HX6
      go_wp2_with fail
      refine (rep_lit ⟨#[32]⟩ 20000 20000 _ rfl (by omega) (by decide)).mono ?_
      rintro e w8 ⟨X8, rfl, hX, -, hb8⟩
      have H8 := Lib.hid (H7.out.trans (hb8.mono H7.out.size))
      have HX8 := Lib.hid hX
      clear hb8 H7 hX
      go_wp2_with fail
      have q1 := scan_blank0 X8 HX8.out
      have q2 := scan_none X8 w8 0 0 0 q1 rfl
      clear q1
      refine q2.mono ?_
      clear q2
      rintro e w9 ⟨p9, c9, rfl, hb9⟩
      have H9 := Lib.hid (H8.out.trans (hb9.mono H8.out.size))
      clear hb9 H8 HX8
      go_wp2_with fail
      refine (rep_lit ⟨#[97, 32]⟩ 2000 2000 _ rfl (by omega) (by decide)).mono ?_
      rintro e w10 ⟨X10, rfl, hX, hz, hb10⟩
      have hz10 : X10.size ≤ 4000 := by rw [hz]; decide
      have n1 : ¬ (9223372036854775807 < X10.size + 1) := by omega
      have H10 := Lib.hid (H9.out.trans (hb10.mono H9.out.size))
      have HX10 := Lib.hid hX
      clear hb10 H9 hX hz
      go_wp2_with fail
      have q1 := scan_bad X10 HX10.out
      have q2 := scan_none (X10 ++ ⟨#[63]⟩) w10 4000 4000 340 q1 rfl
      clear q1
      refine q2.mono ?_
      clear q2
      rintro e w11 ⟨p11, c11, rfl, hb11⟩
      have H11 := Lib.hid (H10.out.trans (hb11.mono H10.out.size))
      clear hb11 H10 HX10 hz10 n1
      obtain ⟨C1, hcz1, hct1, hmk1⟩ := mk_toks 2001 2001 rfl (by omega)
      have HCT1 := Lib.hid hct1
      clear hcz1 hct1
      go_wp2_with fail
      have q1 := print_res _ _ _ _ _ ((show RowAt (w11.alloc (.cells C1 23)) w11.heap.size C1 from heap_alloc_at rfl).toks (k := 2001) (cap := 2001) HCT1.out (by omega) (by omega) (by omega)) (fun t ht => by rw [List.eq_of_mem_replicate ht]; decide) zeros_over
      refine q1.mono ?_
      clear q1
      rintro e w12 ⟨rfl, hb12⟩
      have HR12 := Lib.hid ((show RowAt w12 w11.heap.size C1 from (hb12.block _ (by simp)).trans (heap_alloc_at rfl)).toks (k := 2000) (cap := 2001) HCT1.out (by omega) (by omega) (by omega))
      have H12 := Lib.hid (H11.out.trans ((alloc_trans hb12).mono H11.out.size))
      clear hb12 H11 HCT1 hmk1
      go_wp2_with fail
      have q1 := print_res _ _ _ _ _ HR12.out (fun t ht => by rw [List.eq_of_mem_replicate ht]; decide) zeros_bad
      refine q1.mono ?_
      clear q1
      rintro e w13 ⟨rfl, hb13⟩
      have H13 := Lib.hid (H12.out.trans (hb13.mono H12.out.size))
      clear hb13 H12 HR12
      obtain ⟨C2, hcz2, hct2, hmk2⟩ := mk_toks 1600 1600 rfl (by omega)
      have HCZ2 := Lib.hid hcz2
      clear hcz2 hct2
      go_wp2_with fail
      clear hmk2
      go_loopw [165] (fun i wr => ∃ (k : Nat) (C : Array Value), k ≤ 1600 ∧ i = .int .i64 k ∧ RowAt wr w13.heap.size C ∧ C.size = 4800 ∧ RowToks C k lTok ∧ Below w13.heap.size w13 wr) (fun i _ => 1600 - (intOf i).toNat)
      case atStart => exact ⟨0, C2, by omega, rfl, heap_alloc_at rfl, HCZ2.out, fun j hj => absurd hj (by omega), (Below.refl _ _).alloc (Nat.le_refl _) _⟩
      case round =>
        obtain ⟨k, C, hk, rfl, hrow, hcs, hct, hB⟩ := hrel
        have HB := Lib.hid hB
        have HROW := Lib.hid hrow
        have HCT := Lib.hid hct
        have HCS := Lib.hid hcs
        by_cases hlt : k < 1600
        · obtain ⟨o0, z0⟩ : ∃ o, wr.cell? ⟨w13.heap.size, k * 3, none⟩ = some o := ⟨_, (hrow.cell _).trans (Array.getElem?_eq_getElem (by omega))⟩
          obtain ⟨o1, z1⟩ : ∃ o, wr.cell? ⟨w13.heap.size, k * 3 + 1, none⟩ = some o := ⟨_, (hrow.cell _).trans (Array.getElem?_eq_getElem (by omega))⟩
          obtain ⟨o2, z2⟩ : ∃ o, wr.cell? ⟨w13.heap.size, k * 3 + 2, none⟩ = some o := ⟨_, (hrow.cell _).trans (Array.getElem?_eq_getElem (by omega))⟩
          have f0 := hrow.frozen (k * 3)
          have f1 := hrow.frozen (k * 3 + 1)
          have f2 := hrow.frozen (k * 3 + 2)
          clear hrow hct hcs hB
          go_wp2_with fail
          go_roundw
          case rel => exact ⟨k + 1, putTok C k, by omega, by go_num, ((HROW.out.set_ _ _).set_ _ _).set_ _ _, by have := HCS.out; simpa [putTok] using this, putTok_toks HCT.out HCS.out hlt, ((HB.out.setCell (p := ⟨w13.heap.size, k * 3, none⟩) (Nat.le_refl _) _).setCell (p := ⟨w13.heap.size, k * 3 + 1, none⟩) (Nat.le_refl _) _).setCell (p := ⟨w13.heap.size, k * 3 + 2, none⟩) (Nat.le_refl _) _⟩
          case measure => simp [intOf]; omega
        · obtain rfl : k = 1600 := by omega
          have HL := Lib.hid (hrow.toks (k := 1600) (cap := 1600) hct (by omega) (by omega) (by omega))
          have HS := Lib.hid (hrow.toks (k := 1538) (cap := 1600) hct (by omega) (by omega) (by omega))
          have H14 := Lib.hid (H13.out.trans (hB.mono H13.out.size))
          clear hB HB hrow hct hcs HROW HCT HCS H13 HCZ2
          rw [show ((1600 : Nat) : Int) = 1600 from rfl]
          go_wp2_with fail
          have q1 := print_res _ _ _ _ _ HL.out (fun t ht => by rw [List.eq_of_mem_replicate ht]; decide) longs_over
          refine q1.mono ?_
          clear q1
          rintro e w15 ⟨rfl, hb15⟩
          have H15 := Lib.hid (H14.out.trans (hb15.mono H14.out.size))
          have HS2 := Lib.hid (HS.out.below hb15)
          clear hb15 H14 HL HS
          go_wp2_with fail
          refine (print_full _ _ HS2.out).mono ?_
          rintro e w16 ⟨S, rfl, hsz, hb16⟩
          have H16 := Lib.hid (H15.out.trans (hb16.mono H15.out.size))
          clear hb16 H15 HS2
          go_wp2_with fail
          refine (known1 0 _ 0 (by decide +kernel)).mono ?_
          rintro e w17 ⟨rfl, hb17⟩
          have H17 := Lib.hid (H16.out.trans (hb17.mono H16.out.size))
          clear hb17 H16
          go_wp2_with fail
          refine (known1 19999 _ 0 (by decide +kernel)).mono ?_
          rintro e w18 ⟨rfl, hb18⟩
          have H18 := Lib.hid (H17.out.trans (hb18.mono H17.out.size))
          clear hb18 H17
          go_wp2_with fail
          refine (known1 20000 _ 340 (by decide +kernel)).mono ?_
          rintro e w19 ⟨rfl, hb19⟩
          have H19 := Lib.hid (H18.out.trans (hb19.mono H18.out.size))
          clear hb19 H18
          go_wp2_with fail
          refine (known1 (-1) _ 340 (by decide +kernel)).mono ?_
          rintro e w20 ⟨rfl, hb20⟩
          have H20 := Lib.hid (H19.out.trans (hb20.mono H19.out.size))
          clear hb20 H19
          go_wp2_with fail
          refine (check_res 5 ⟨#[97]⟩ 0 _ 340 (by decide) (by decide +kernel)).mono ?_
          rintro e w21 ⟨rfl, hb21⟩
          have H21 := Lib.hid (H20.out.trans (hb21.mono H20.out.size))
          clear hb21 H20
          go_wp2_with fail
          refine (check_res 0 ⟨#[]⟩ 0 _ 340 (by decide) (by decide +kernel)).mono ?_
          rintro e w22 ⟨rfl, hb22⟩
          have H22 := Lib.hid (H21.out.trans (hb22.mono H21.out.size))
          clear hb22 H21
          go_wp2_with fail
          refine (gives1 _ ⟨#[97, 35, 98]⟩ ⟨#[49, 97]⟩ _ (by decide +kernel)).mono ?_
          rintro e w23 ⟨rfl, hb23⟩
          have H23 := Lib.hid (H22.out.trans (hb23.mono H22.out.size))
          clear hb23 H22
          go_wp2_with fail
          refine (gives_pos _ ⟨#[35]⟩ _ [] (ListS.nil _ _) (by decide +kernel)).mono ?_
          rintro e w24 ⟨rfl, hb24⟩
          have H24 := Lib.hid (H23.out.trans (hb24.mono H23.out.size))
          clear hb24 H23
          go_wp2_with fail
          refine (gives1 _ ⟨#[97, 98, 99, 100, 101, 102, 103, 104, 105, 106, 107, 108]⟩ ⟨#[49, 97, 98, 99, 100, 101, 102, 103, 104, 105, 106, 107, 108]⟩ _ (by decide +kernel)).mono ?_
          rintro e w25 ⟨rfl, hb25⟩
          have H25 := Lib.hid (H24.out.trans (hb25.mono H24.out.size))
          clear hb25 H24
          go_wp2_with fail
          refine (gives1 _ ⟨#[49, 50, 51, 52]⟩ ⟨#[51, 49, 50, 51, 52]⟩ _ (by decide +kernel)).mono ?_
          rintro e w26 ⟨rfl, hb26⟩
          have H26 := Lib.hid (H25.out.trans (hb26.mono H25.out.size))
          clear hb26 H25
          go_wp2
          go_ret
          exact ⟨rfl, H26.out⟩
end Go.Proofs.Ytigppjgmfonodaa
