/- Scan of the reference: what a call computes. -/
import Derived.Test.YtigppjgmfonodaaLexR
namespace Go.Proofs.Ytigppjgmfonodaa
open Go.RowKit

def RScanRel (s : ByteArray) (w : World) (out i : Value) (wr : World) : Prop :=
  ∃ (k f : Nat) (acc : List Tok), i = .int .i64 k ∧ k ≤ s.size ∧ skipF false (s.data.toList.drop k) = s.data.toList.drop k ∧ s.size - k < f ∧
    scanG s.data.toList.length f (s.data.toList.drop k) acc = scanG s.data.toList.length (s.data.toList.length + 1) s.data.toList [] ∧
    wr.ownsRow w.heap.size 23 3 out acc.length (tokCells acc) ∧ acc.length ≤ 2000 ∧ Below w.heap.size w wr

theorem ownsRow_below {W W' : World} {base e size n : Nat} {v : Value} {xs : List Value} (h : W.ownsRow base e size v n xs) (hb : Below W.heap.size W W') : W'.ownsRow base e size v n xs :=
  h.kept (grown_of_below hb) (by rcases h.2 with ⟨rfl, _⟩ | ⟨g, cap, cur, rfl, _⟩ <;> simp [Value.ownBlock])
theorem ownsRow_far {W : World} {base e size n : Nat} {v : Value} {xs : List Value} (h : W.ownsRow base e size v n xs) {b : Nat} (hb : v.ownBlock ≠ some b) (o : Nat) (u : Value) : (W.setCell ⟨b, o, none⟩ u).ownsRow base e size v n xs :=
  ownsRow_setCell_other h hb u
theorem own_lt {W : World} {base e size n : Nat} {v : Value} {xs : List Value} (h : W.ownsRow base e size v n xs) {b : Nat} (hb : W.heap.size ≤ b) : v.ownBlock ≠ some b := by
  intro e'
  have := h.lt b e'
  omega

theorem cells_new1 (w : World) (o : Obj) (cs : List Value) (t : TypeId) : ∀ j u, cs[j]? = some u → ((w.alloc o).alloc (.cells cs.toArray t)).cell? ((⟨w.heap.size + 1, 0, none⟩ : Addr).add j) = some u := by
  have h := cells_new (w.alloc o) cs t
  rw [World.size_alloc] at h
  exact h

set_option maxRecDepth 100000 in
set_option maxHeartbeats 4000000 in
theorem rscan_any (s : ByteArray) (w : World) : Calls Try.prog 21 #[.string s] w (ScanPost s w) := by
  rcases Nat.lt_or_ge 20000 s.size with hs | hs
  · have hsc : scanT s.data.toList = ([], 0, 3) := by unfold scanT; rw [if_pos (by simpa using hs)]
    have HSC := Lib.hid hsc
    clear hsc
    have hdec : decide (20000 < (s.size : Int)) = true := by simp; omega
    go_enter Try.func21, Try.ntmps21
    go_wp2
    go_ret3
    exact ⟨.slice none 0 0, by rw [HSC.out]; rfl, by rw [HSC.out]; exact World.ownsRow_nil _ _ _ _, Below.refl _ _⟩
  · have hsc : scanT s.data.toList = scanG s.data.toList.length (s.data.toList.length + 1) s.data.toList [] := scanT_short (by simpa using hs)
    have HSC := Lib.hid hsc
    clear hsc
    have hdec : decide (20000 < (s.size : Int)) = false := by simp; omega
    go_enter Try.func21, Try.ntmps21
    go_wp2_with fail
    refine (rskip_any s 0 w (by omega) (by omega)).mono ?_
    rintro e w' ⟨rfl, rfl⟩
    have hstart : RScanRel s w (.slice none 0 0) (.int .i64 (skipN s.data.toList 0)) w := ⟨skipN s.data.toList 0, s.data.toList.length + 1, [], rfl, by have := skipN_ge s.data.toList 0 (by omega); simpa using this.2, by rw [skipN_drop, skipF_skip], by simp; omega, by rw [skipN_drop, scanG_skip]; simp, World.ownsRow_nil _ _ _ _, by simp, Below.refl _ _⟩
    have HS := Lib.hid hstart
    clear hstart
    go_wp2
    go_loopw [5, 6] (fun out i wr => RScanRel s w out i wr) (fun _ i _ => s.size - (intOf i).toNat)
    case atStart => exact HS.out
    case round =>
      clear HS
      obtain ⟨k, f, acc, rfl, hk, hsk, hf, hsc, hrow, hacc, hB⟩ := hrel
      have HSK := Lib.hid hsk
      have HSG := Lib.hid hsc
      have HROW := Lib.hid hrow
      have HB := Lib.hid hB
      obtain ⟨pp, cap, rfl⟩ := ownsRow_form hrow
      have hBs := hB.size
      clear hsk hsc hrow hB
      by_cases hlt : k < s.size
      · have hlk : k < s.data.toList.length := by simpa using hlt
        have HNE : Hid (s.data.toList.drop k ≠ []) := Lib.hid (by rw [drop_cons hlk]; simp)
        have HPOS : Hid (s.data.toList.length - (s.data.toList.drop k).length = k) := Lib.hid (by simp; omega)
        go_wp2_with fail
        refine (rone_any s k wr (by omega) hlt).mono ?_
        rintro e w1 ⟨rfl, hb1⟩
        have htsz : (oneT (s.data.toList.drop k)).2.length ≤ s.size - k := by
          have h := one_size (s := s) (k := k) (tx := bytesOf (oneT (s.data.toList.drop k)).2) (list_bytesOf _)
          have h2 : (bytesOf (oneT (s.data.toList.drop k)).2).size = (oneT (s.data.toList.drop k)).2.length := by simp [bytesOf, ByteArray.size]
          omega
        obtain ⟨kd, hkd⟩ : ∃ x, (oneT (s.data.toList.drop k)).1 = x := ⟨_, rfl⟩
        obtain ⟨tl, htl⟩ : ∃ x, (oneT (s.data.toList.drop k)).2 = x := ⟨_, rfl⟩
        rw [hkd, htl]
        rw [htl] at htsz
        have HKD := Lib.hid hkd
        have HTL := Lib.hid htl
        have HR1 := Lib.hid (ownsRow_below HROW.out hb1)
        have HB1 := Lib.hid (HB.out.trans (hb1.mono HB.out.size))
        have hbs1 := hb1.size
        clear hkd htl hb1 HROW HB
        obtain ⟨f', rfl⟩ : ∃ f', f = f' + 1 := ⟨f - 1, by omega⟩
        cases hri : rightB kd tl
        · have HF : Hid (scanG s.data.toList.length (s.data.toList.length + 1) s.data.toList [] = ([], k, 340)) := Lib.hid (by
            rw [← HSG.out, scanG_bad HSK.out HNE.out (by rw [HKD.out, HTL.out]; exact hri), HPOS.out])
          go_wp2
          go_ret3
          exact ⟨.slice none 0 0, by rw [HSC.out, HF.out]; rfl, by rw [HSC.out, HF.out]; exact World.ownsRow_nil _ _ _ _, HB1.out.alloc HB1.out.size _⟩
        · by_cases h2000 : acc.length = 2000
          · have HF : Hid (scanG s.data.toList.length (s.data.toList.length + 1) s.data.toList [] = ([], k, 3)) := Lib.hid (by
              rw [← HSG.out, scanG_full HSK.out HNE.out (by rw [HKD.out, HTL.out]; exact hri) h2000, HPOS.out])
            have hd : ((acc.length : Int) == 2000) = true := by rw [h2000]; rfl
            clear h2000
            go_wp2
            go_ret3
            exact ⟨.slice none 0 0, by rw [HSC.out, HF.out]; rfl, by rw [HSC.out, HF.out]; exact World.ownsRow_nil _ _ _ _, HB1.out.alloc HB1.out.size _⟩
          · have HF : Hid (scanG s.data.toList.length (f' + 1) (s.data.toList.drop k) acc = scanG s.data.toList.length f' ((s.data.toList.drop k).drop tl.length) (acc ++ [⟨kd, tl, k⟩])) := Lib.hid (by
              rw [scanG_next HSK.out HNE.out (by rw [HKD.out, HTL.out]; exact hri) h2000, HKD.out, HTL.out, HPOS.out])
            have hd : ((acc.length : Int) == 2000) = false := by simp; omega
            have hl2 : 1 ≤ tl.length := by
              have := rightB_ne hri
              cases tl with | nil => exact absurd rfl this | cons => simp
            obtain ⟨i0, hi, hz0, hz1, hz2⟩ := info_parts info_tok
            have hle : k + tl.length ≤ s.size := by omega
            have HTK : Hid (TokAt (w1.alloc (.cells #[.int .i64 kd, .string (bytesOf tl), .int .i64 (k : Int)] 23)) w1.heap.size kd (bytesOf tl) k) := Lib.hid (heap_alloc_new w1 _)
            have HB2 := Lib.hid (HB1.out.alloc HB1.out.size (.cells #[.int .i64 kd, .string (bytesOf tl), .int .i64 (k : Int)] 23))
            have HE : Hid ((k : Int) + ((bytesOf tl).size : Int) = ((k + tl.length : Nat) : Int)) := Lib.hid (by simp [bytesOf, ByteArray.size])
            have hbz : ((k : Int) + ((bytesOf tl).size : Int)) ≤ 1000000 := by rw [HE.out]; omega
            have hbz0 : 0 ≤ ((bytesOf tl).size : Int) := by omega
            go_wp2_with (at_builtin; refine wpList_append_own _ rfl _ _ 39 rfl w.heap.size 23 i0 (.agg #[.int .i64 0, .string ⟨#[]⟩, .int .i64 0]) 3 32 und_toks hi hz0 hz1 hz2 rfl (by decide) _ _ _ rfl ((HR1.out.alloc _).alloc _) ⟨w1.heap.size + 1, 0, none⟩ 1 1 [.int .i64 kd, .string (bytesOf tl), .int .i64 (k : Int)] rfl rfl (cells_new1 _ _ _ _) (by simp [Value.oneCell']) (by simp [maxLen]; omega) (by omega) (by simp; omega) ?_; intro v' w2 hown' hgrow _; obtain ⟨g', cap', rfl⟩ := ownsRow_succ hown'; have HT2 : Hid (TokAt w2 w1.heap.size kd (bytesOf tl) k) := Lib.hid ((hgrow.block _ (by simp; omega) (fun e => own_lt HR1.out (Nat.le_refl _) e.symm)).trans (heap_alloc_lt HTK.out)); have t2 := HT2.out.cells.2.1; have HO := Lib.hid hown'; have HG : Hid (Below w.heap.size w w2) := Lib.hid ((HB2.out.alloc HB2.out.size _).grown hgrow (Nat.le_trans HB2.out.size (by simp)) (fun b e => (HR1.out.lt b e).1)); clear hown' hgrow)
            rw [HE.out]
            refine (rskip_any s (k + tl.length) w2 (by omega) hle).mono ?_
            rintro e w3 ⟨rfl, rfl⟩
            have hsn := skipN_ge s.data.toList (k + tl.length) (by simpa using hle)
            go_wp2
            go_roundw
            case rel =>
              refine ⟨skipN s.data.toList (k + tl.length), f', acc ++ [⟨kd, tl, k⟩], rfl, by simpa using hsn.2, by rw [skipN_drop, skipF_skip], by have := hsn.1; omega, ?_, ?_, by simp; omega, HG.out⟩
              · rw [← HSG.out, HF.out, List.drop_drop, skipN_drop]
                obtain ⟨f'', rfl⟩ : ∃ f'', f' = f'' + 1 := ⟨f' - 1, by omega⟩
                exact scanG_skip _ _ _ _
              · rw [tokCells_snoc, List.length_append]; exact HO.out
            case measure => simp [intOf]; have := hsn.1; have := hsn.2; simp at this; omega
      · obtain rfl : k = s.size := by omega
        obtain ⟨f', rfl⟩ : ∃ f', f = f' + 1 := ⟨f - 1, by omega⟩
        have HF : Hid (scanG s.data.toList.length (s.data.toList.length + 1) s.data.toList [] = (acc, 0, 0)) := Lib.hid (by
          rw [← HSG.out, show s.data.toList.drop s.size = [] from List.drop_eq_nil_of_le (by simp), scanG_end])
        go_wp2
        go_ret3
        exact ⟨.slice pp acc.length cap, by rw [HSC.out, HF.out]; rfl, by rw [HSC.out, HF.out]; exact HROW.out, HB.out⟩
end Go.Proofs.Ytigppjgmfonodaa
