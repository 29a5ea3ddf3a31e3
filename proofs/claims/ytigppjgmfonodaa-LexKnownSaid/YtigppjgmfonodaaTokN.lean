/- Token of a draft that is a name: what a call gives. -/
import Derived.Test.YtigppjgmfonodaaTok
namespace Go.Proofs.Ytigppjgmfonodaa
open Go.RowKit

def nmT (ls : List UInt8) (j : Nat) : List UInt8 := 120 :: (ls.take j).map letC
theorem nmT_succ {ls : List UInt8} {j : Nat} {c : UInt8} (h : ls[j]? = some c) : nmT ls (j + 1) = nmT ls j ++ [letC c] := by
  obtain ⟨hlt, rfl⟩ := List.getElem?_eq_some_iff.1 h
  unfold nmT
  rw [List.take_succ_eq_append_getElem hlt, List.map_append]; rfl

theorem bytesOf_append (a b : List UInt8) : bytesOf a ++ bytesOf b = bytesOf (a ++ b) := by unfold bytesOf; apply ByteArray.ext; simp
def TokNRel (w : World) (v : Value) (ls : List UInt8) (wh : Int) (i : Value) (wr : World) : Prop :=
  ∃ j : Nat, i = .int .i64 j ∧ j ≤ ls.length ∧ j ≤ 11 ∧ wr.cell? ⟨w.heap.size, 2, none⟩ = some v ∧ TokCut w 1 (bytesOf (nmT ls j)) wh wr

set_option maxRecDepth 100000 in
set_option maxHeartbeats 4000000 in
theorem token_names (k wh : UInt8) (v : Value) (ls : List UInt8) (n : Nat) (w : World) (hv : ListS u8v w v ls) (hk : k.toNat % 4 = 0) :
    Calls Try.prog 10 #[.agg #[.int .u8 k.toNat, .int .u8 wh.toNat, v, .int .u32 n]] w fun e w' => e = .returned (draftT k wh ls n).val ∧ Below w.heap.size w w' := by
  obtain ⟨p, cap, rfl, h1, h2, h3⟩ := hv
  obtain ⟨X, hX⟩ : ∃ X, bytesOf (nmT ls 11) = X := ⟨_, rfl⟩
  have HV : Hid ((draftT k wh ls n).val = .agg #[.int .i64 1, .string X, .int .i64 wh.toNat]) := Lib.hid (by
    rw [← hX]; unfold draftT draftX ZTok.val nmT; simp [hk])
  have k1 : (k.toNat : Int) % 4 = 0 := by omega
  have k2 : (k.toNat : Int) < 256 := by have := k.toNat_lt; omega
  have k3 : (wh.toNat : Int) < 256 := by have := wh.toNat_lt; omega
  have H3 := Lib.hid h3
  have HX := Lib.hid hX
  clear hk hX h3
  go_enter Try.func10, Try.ntmps10
  go_upto_block 0 with (fail)
  go_cut [] (fun w' => TokCut w 1 X wh.toNat w')
  case first =>
    refine wp_world (F := fun w1 => w1.cell? ⟨w.heap.size, 2, none⟩ = some (.slice p ls.length cap) ∧ TokCut w 1 ⟨#[]⟩ wh.toNat w1) ⟨?_, heap_alloc_at (by simp), heap_alloc_lt (heap_alloc_at (by simp)), (((Below.refl _ _).alloc (Nat.le_refl _) _).alloc (by simp) _).alloc (by simp; omega) _⟩ ?_
    · exact heap_alloc_cell (heap_alloc_cell (World.cell?_alloc_at (hn := rfl) ..))
    rintro w1 ⟨hD, hT, hZ, hB⟩
    have HT := Lib.hid hT
    have HZ := Lib.hid hZ
    have HB := Lib.hid hB
    have HD := Lib.hid hD
    have c0 := hT.cells.1
    have c1 := hT.cells.2.1
    have c2 := hT.free.2.1
    have hlt := lt_of_blk hT
    have hne : ¬ w.heap.size + 1 = w.heap.size + 1 + 1 := by omega
    clear hT hZ hB hD
    go_wp2
    go_loopw [4] (fun i wr => TokNRel w (.slice p ls.length cap) ls wh.toNat i wr) (fun i _ => ls.length - (intOf i).toNat)
    case atStart =>
      exact ⟨0, rfl, Nat.zero_le _, by omega, (World.cell?_setCell_other _ _ _ _ (by intro e; simp at e)).trans HD.out, HT.out.set1 _, HZ.out.far hne _ _, HB.out.setCell (p := ⟨w.heap.size + 1 + 1, 1, none⟩) (by show _ ≤ _ + 1 + 1; omega) _⟩
    case round =>
      obtain ⟨j, rfl, hj1, hj2, hD, hT, hZ, hB⟩ := hrel
      have HTr := Lib.hid hT
      have HZr := Lib.hid hZ
      have HBr := Lib.hid hB
      have HDr := Lib.hid hD
      have d1 := hT.cells.2.1
      have d2 := hT.free.2.1
      have hltr := lt_of_blk hT
      clear hT hZ hB hD c0 c1 c2
      by_cases hmore : j < ls.length ∧ j < 11
      · obtain ⟨hm1, hm2⟩ := hmore
        have hne3 : ls ≠ [] := by rintro rfl; simp at hm1
        obtain ⟨b, o, rfl, hc⟩ := H3.out hne3
        obtain ⟨c, hcc⟩ : ∃ c, ls[j]? = some c := ⟨_, List.getElem?_eq_getElem hm1⟩
        have q0 : wr.cell? ⟨b, o + j, none⟩ = some (.int .u8 c.toNat) := below_cell HBr.out (hc j c hcc)
        have HCC := Lib.hid hcc
        have e0 := HDr.out
        have g1 : (c.toNat : Int).tmod 10 = (c.toNat : Int) % 10 := Int.tmod_eq_emod_of_nonneg (by omega)
        have g2 : IntKind.u8.wrap ((c.toNat : Int) % 10) = (c.toNat : Int) % 10 := IntWalk.u8_in _ (by omega)
        have g3 : IntKind.u8.wrap ((c.toNat : Int) % 10 + 1) = (c.toNat : Int) % 10 + 1 := IntWalk.u8_in _ (by omega)
        have g4 : ((c.toNat : Int) % 10).toNat = c.toNat % 10 := by omega
        have g5 : ((c.toNat : Int) % 10 + 1).toNat = c.toNat % 10 + 1 := by omega
        have g6 : (0 : Int) ≤ (c.toNat : Int) % 10 := by omega
        have g7 : (c.toNat : Int) % 10 + 1 ≤ 10 := by omega
        have g8 : (c.toNat : Int) % 10 ≤ (c.toNat : Int) % 10 + 1 := by omega
        have HEX := Lib.hid (let_ext c)
        have hsz : ((bytesOf (nmT ls j)).size : Int) ≤ 100 := by simp [bytesOf, ByteArray.size, nmT]; omega
        clear hc hcc
        go_wp2_with fail
        go_region
        go_wp2_with fail
        clear g1 g2 g3 g4 g5 q0 e0
        go_roundw
        case rel =>
          refine ⟨j + 1, by go_num, by omega, by omega, (World.cell?_setCell_other _ _ _ _ (by intro e; simp at e)).trans HDr.out, ?_, HZr.out.far hne _ _, (HBr.out.setCell (p := ⟨w.heap.size + 1 + 1, 1, none⟩) (by show _ ≤ _ + 1 + 1; omega) _).drew⟩
          rw [nmT_succ HCC.out, ← bytesOf_append, ← HEX.out]
          exact HTr.out.set1 _
        case measure => simp [intOf]; omega
      · have HXJ : Hid (bytesOf (nmT ls j) = X) := Lib.hid (by
          rw [← HX.out]
          unfold nmT
          congr 3
          rw [List.take_eq_take_iff]
          omega)
        have e0 := HDr.out
        by_cases hm1 : j < ls.length
        · have hm2 : 11 ≤ j := by omega
          go_wp2_with fail
          go_meet
          case rel => exact ⟨by rw [← HXJ.out]; exact HTr.out, HZr.out, HBr.out⟩
        · have hm2 : ls.length ≤ j := by omega
          go_wp2_with fail
          go_meet
          case rel => exact ⟨by rw [← HXJ.out]; exact HTr.out, HZr.out, HBr.out⟩
  case rest =>
    obtain ⟨hT9, hZ9, hB9⟩ := hcut
    have HZ9 := Lib.hid hZ9
    have HB9 := Lib.hid hB9
    have c5 := hT9.cells
    have c6 := hZ9.cells
    have c7 := hZ9.free
    clear hT9 hZ9 hB9
    go_wp2
    have HE : Hid (TokAt (((wc.setCell ⟨w.heap.size + 1, 0, none⟩ (.int .i64 1)).setCell ⟨w.heap.size + 1, 1, none⟩ (.string X)).setCell ⟨w.heap.size + 1, 2, none⟩ (.int .i64 wh.toNat)) (w.heap.size + 1) 1 X wh.toNat) := Lib.hid (((HZ9.out.set0 _).set1 _).set2 _)
    have HG : Hid (Below w.heap.size w (((wc.setCell ⟨w.heap.size + 1, 0, none⟩ (.int .i64 1)).setCell ⟨w.heap.size + 1, 1, none⟩ (.string X)).setCell ⟨w.heap.size + 1, 2, none⟩ (.int .i64 wh.toNat))) := Lib.hid (((HB9.out.setCell (p := ⟨w.heap.size + 1, 0, none⟩) (Nat.le_succ _) _).setCell (p := ⟨w.heap.size + 1, 1, none⟩) (Nat.le_succ _) _).setCell (p := ⟨w.heap.size + 1, 2, none⟩) (Nat.le_succ _) _)
    generalize (((wc.setCell ⟨w.heap.size + 1, 0, none⟩ (.int .i64 1)).setCell ⟨w.heap.size + 1, 1, none⟩ (.string X)).setCell ⟨w.heap.size + 1, 2, none⟩ (.int .i64 wh.toNat)) = w9 at HE HG ⊢
    have q := HE.out.cells
    exact bodyPost_ret (v := .agg #[.int .i64 1, .string X, .int .i64 wh.toNat]) (by simp [results, Try.results10, go_sem, q.1, q.2.1, q.2.2]) rfl ⟨by rw [HV.out], HG.out⟩

theorem token_any (k wh : UInt8) (v : Value) (ls : List UInt8) (n : Nat) (w : World) (hv : ListS u8v w v ls) (hn : n < 4294967296) :
    Calls Try.prog 10 #[.agg #[.int .u8 k.toNat, .int .u8 wh.toNat, v, .int .u32 n]] w fun e w' => e = .returned (draftT k wh ls n).val ∧ Below w.heap.size w w' := by
  have h : k.toNat % 4 = 0 ∨ k.toNat % 4 = 1 ∨ k.toNat % 4 = 2 ∨ k.toNat % 4 = 3 := by omega
  rcases h with h | h | h | h
  · exact token_names k wh v ls n w hv h
  · exact token_words k wh v ls n w h
  · exact token_digits k wh v ls n w hv h hn
  · exact token_signs k wh v ls n w h

/-! The token of a draft is valid. -/
theorem digL_all (n : Nat) : (digL n).all digitB = true := by
  have hd : ∀ m, m < 10 → digitB (UInt8.ofNat (48 + m)) = true := by decide +kernel
  induction n using Nat.strongRecOn with
  | _ n ih =>
    by_cases h : n < 10
    · rw [digL_small h, List.all_cons, hd n h]; rfl
    · rw [digL_big h, List.all_append, ih (n / 10) (by omega), List.all_cons, hd (n % 10) (by omega)]; rfl
theorem digL_head (n : Nat) (h1 : 1 ≤ n) : (digL n).head? ≠ some 48 := by
  have hd : ∀ m, m < 10 → 1 ≤ m → UInt8.ofNat (48 + m) ≠ 48 := by decide +kernel
  induction n using Nat.strongRecOn with
  | _ n ih =>
    by_cases h : n < 10
    · rw [digL_small h]; simpa using hd n h h1
    · have h2 := ih (n / 10) (by omega) (by omega)
      have h3 := (digL_len (n / 10)).1
      rw [digL_big h]
      cases hx : digL (n / 10) with
      | nil => rw [hx] at h3; simp at h3
      | cons c r => rw [hx] at h2; simpa using h2
theorem digL_4 (n : Nat) (h : n < 10000) : (digL n).length ≤ 4 := by
  have h1 : ∀ n, n < 10 → (digL n).length = 1 := fun n h => by rw [digL_small h]; rfl
  have h2 : ∀ n, n < 100 → (digL n).length ≤ 2 := fun n h => by
    by_cases hs : n < 10
    · rw [h1 n hs]; omega
    · rw [digL_big hs, List.length_append, h1 _ (by omega)]; simp
  have h3 : ∀ n, n < 1000 → (digL n).length ≤ 3 := fun n h => by
    by_cases hs : n < 10
    · rw [h1 n hs]; omega
    · rw [digL_big hs, List.length_append]; have := h2 (n / 10) (by omega); simp; omega
  by_cases hs : n < 10
  · rw [h1 n hs]; omega
  · rw [digL_big hs, List.length_append]; have := h3 (n / 10) (by omega); simp; omega
theorem digL_number (n : Nat) (h : n < 10000) : numberB (digL n) = true := by
  unfold numberB
  rw [digL_all]
  rcases Nat.eq_zero_or_pos n with rfl | hp
  · rw [digL_small (by omega)]; decide
  · have h2 := digL_head n hp
    have h3 := digL_4 n h
    have h4 := (digL_len n).1
    have e1 : (digL n).isEmpty = false := by cases hx : digL n with | nil => rw [hx] at h4; simp at h4 | cons => rfl
    simp [e1, h3]
    right
    simpa using h2
theorem name_x (l : List UInt8) (hl : l.length ≤ 11) : nameB (120 :: l.map letC) = true := by
  have hp : ∀ m, m < 10 → partB (setC.getD m 0) = true := by decide +kernel
  have hall : (l.map letC).all partB = true := by
    rw [List.all_map, List.all_eq_true]
    intro c _
    exact hp _ (by omega)
  have hw : memL wordBytes (120 :: l.map letC) = false := by
    have key : (wordBytes.all fun x => x.head? != some 120) = true := by decide +kernel
    cases hm : memL wordBytes (120 :: l.map letC)
    · rfl
    · have := List.all_eq_true.1 key _ (memL_iff.1 hm)
      simp at this
  unfold nameB wordB
  rw [List.all_cons, hall, hw]
  have e1 : partB 120 = true := by decide
  have e2 : letterB 120 = true := by decide
  simp [e1, e2]; omega
theorem draft_right (k wh : UInt8) (ls : List UInt8) (n : Nat) : rightB (draftT k wh ls n).kind (draftT k wh ls n).text = true := by
  have hw : ∀ i, i < 23 → memL wordBytes (wordBytes.getD i []) = true := by decide +kernel
  have hs : ∀ i, i < 21 → memL signBytes (signBytes.getD i []) = true := by decide +kernel
  have h : k.toNat % 4 = 0 ∨ k.toNat % 4 = 1 ∨ k.toNat % 4 = 2 ∨ k.toNat % 4 = 3 := by omega
  unfold draftT draftX
  rcases h with h | h | h | h
  · simp only [h]
    show rightB 1 (120 :: (ls.take 11).map letC) = true
    exact name_x _ (by simp; omega)
  · simp only [h]
    exact hw _ (by omega)
  · simp only [h]
    exact digL_number _ (by omega)
  · simp only [h]
    exact hs _ (by omega)
theorem right_len {kd : Int} {x : List UInt8} (h : rightB kd x = true) : x.length ≤ 12 := by
  have hw : (wordBytes.all fun x => decide (x.length ≤ 12)) = true := by decide +kernel
  have hs : (signBytes.all fun x => decide (x.length ≤ 12)) = true := by decide +kernel
  unfold rightB at h
  split at h
  · simp only [nameB, Bool.and_eq_true, decide_eq_true_eq] at h; exact h.1.2
  · split at h
    · simpa using List.all_eq_true.1 hw _ (memL_iff.1 h)
    · split at h
      · simp only [numberB, Bool.and_eq_true, Bool.or_eq_true, decide_eq_true_eq, beq_iff_eq] at h
        rcases h.2 with h | h
        · rw [h]; simp
        · omega
      · split at h
        · simpa using List.all_eq_true.1 hs _ (memL_iff.1 h)
        · cases h
theorem draft_ok (k wh : UInt8) (ls : List UInt8) (n : Nat) : okTok (draftT k wh ls n) = true := by
  have h := draft_right k wh ls n
  have h2 := wh.toNat_lt
  unfold okTok checkE
  rw [if_neg]
  · rfl
  · rw [h]
    show ¬ ((wh.toNat : Int) < 0 ∨ 20000 ≤ (wh.toNat : Int) ∨ true = false)
    simp; omega
end Go.Proofs.Ytigppjgmfonodaa
