/- blank; the walk of LexCovers. -/
import Derived.Test.YtigppjgmfonodaaOpen
import Derived.Test.YtigppjgmfonodaaLexZ
namespace Go.Proofs.Ytigppjgmfonodaa
open Go.RowKit

def strLen : Value → Nat
  | .string x => x.size
  | _ => 0

theorem index_x (s : ByteArray) (j : Int) (w : World) (hj : Lib.indexByte s.data.toList 10 = j) :
    Calls Try.prog 40 #[.string s, .int .u8 10] w fun e w' => e = .returned (.int .i64 j) ∧ Below w.heap.size w w' :=
  (Try.strings_IndexByte s 10 w).mono fun e w' ⟨he, hw⟩ => ⟨by rw [he, ← hj]; rfl, by rw [hw]; exact Below.refl _ _⟩

set_option maxHeartbeats 1000000 in
theorem blank_pos (s : ByteArray) (w : World) (hs : s.size ≤ 1000000) (h : skipF false s.data.toList = []) :
    Calls Try.prog 27 #[.string s] w fun e w' => e = .returned (.bool true) ∧ Below w.heap.size w w' := by
  go_enter Try.func27, Try.ntmps27
  go_wp2
  have HH := Lib.hid h
  clear h
  go_loopw [0, 3] (fun v _ wr => ∃ x : ByteArray, v = .string x ∧ x.size ≤ 1000000 ∧ skipF false x.data.toList = [] ∧ Below w.heap.size w wr) (fun v _ _ => strLen v)
  case atStart => exact ⟨s, rfl, hs, HH.out, Below.refl _ _⟩
  case round =>
    obtain ⟨x, rfl, hx, hsk, hB⟩ := hrel
    have HK := Lib.hid hsk
    have HB := Lib.hid hB
    have hBs := hB.size
    clear hsk hB HH
    by_cases h0 : x.size = 0
    · have hz : x.toList = [] := toList_of_size_zero h0
      go_wp2
      go_ret
      exact ⟨rfl, HB.out⟩
    · have hz := toList_of_size_pos (s := x) (by omega)
      have hz' : (!x.toList.isEmpty) = true := by rw [hz]; rfl
      have hp : 0 < x.size := by omega
      have hl : 0 < x.data.toList.length := by simpa using hp
      have hp1 : (1 : Int) ≤ x.size := by omega
      have hd0 : x.data.toList.drop 0 = x.data.toList := rfl
      have HE1 : Hid ((x.extract 1 x.size).data.toList = x.data.toList.drop 1) := Lib.hid (by rw [Lib.extract_to_end])
      have hes : (x.extract 1 x.size).size = x.size - 1 := by rw [ByteArray.size_extract]; omega
      have HES := Lib.hid hes
      have HD0 := Lib.hid hd0
      clear h0 hd0 hes
      by_cases h32 : x[0] = 32
      · have f1 : ((x[0].toNat : Int) == 32) = true := by rw [h32]; rfl
        have HN : Hid (skipF false (x.data.toList.drop 1) = []) := Lib.hid ((skip_blank hl (.inl h32)).symm.trans HK.out)
        clear h32
        go_wp2
        go_roundw
        case rel => exact ⟨_, rfl, by rw [HES.out]; omega, by rw [HE1.out]; exact HN.out, HB.out⟩
        case measure => show (x.extract 1 x.size).size < x.size; rw [HES.out]; omega
      · have f1 : ((x[0].toNat : Int) == 32) = false := byte_ne h32
        by_cases h10 : x[0] = 10
        · have f2 : ((x[0].toNat : Int) == 10) = true := by rw [h10]; rfl
          have HN : Hid (skipF false (x.data.toList.drop 1) = []) := Lib.hid ((skip_blank hl (.inr h10)).symm.trans HK.out)
          clear h32 h10
          go_wp2
          go_roundw
          case rel => exact ⟨_, rfl, by rw [HES.out]; omega, by rw [HE1.out]; exact HN.out, HB.out⟩
          case measure => show (x.extract 1 x.size).size < x.size; rw [HES.out]; omega
        · have f2 : ((x[0].toNat : Int) == 10) = false := byte_ne h10
          by_cases h35 : x[0] = 35
          · have f3 : ((x[0].toNat : Int) == 35) = true := by rw [h35]; rfl
            have HC := Lib.hid h35
            clear h32 h10 h35
            obtain ⟨j, hj⟩ : ∃ j, Lib.indexByte x.data.toList 10 = j := ⟨_, rfl⟩
            have HJ := Lib.hid hj
            clear hj
            go_wp2_with fail
            refine (index_x x j _ HJ.out).mono ?_
            rintro e w1 ⟨rfl, hb1⟩
            have HB1 := Lib.hid (HB.out.trans (hb1.mono HB.out.size))
            clear hb1
            by_cases hneg : j < 0
            · go_wp2
              go_ret
              exact ⟨rfl, HB1.out⟩
            · have hx2 := skip_comment_some hl HC.out (by rw [HD0.out, HJ.out]; exact hneg)
              rw [HD0.out] at hx2
              obtain ⟨jn, hj1, hj2, hj3, hj4⟩ := hx2
              rw [HJ.out] at hj1
              subst hj1
              rw [Nat.zero_add] at hj3 hj4
              have hj3' : (jn : Int) ≤ x.size := by simp at hj3; omega
              have hj2' : (0 : Int) ≤ jn := by omega
              have HES2 : Hid ((x.extract jn x.size).size = x.size - jn) := Lib.hid (by rw [ByteArray.size_extract]; omega)
              have HE2 : Hid ((x.extract jn x.size).data.toList = x.data.toList.drop jn) := Lib.hid (by rw [Lib.extract_to_end])
              have HN : Hid (skipF false (x.data.toList.drop jn) = []) := Lib.hid (hj4.symm.trans HK.out)
              clear hj3 hj4
              go_wp2
              go_roundw
              case rel => exact ⟨_, rfl, by rw [HES2.out]; omega, by rw [HE2.out]; exact HN.out, HB1.out⟩
              case measure => show (x.extract jn x.size).size < x.size; rw [HES2.out]; omega
          · have h := skip_other hl h32 h10 h35
            have h2 := HK.out
            rw [HD0.out] at h
            rw [h2] at h
            rw [← h] at hl
            exact absurd hl (by simp)

theorem scanG_short (n f : Nat) (l : List UInt8) (acc : List Tok) (h : l.length + acc.length < 2000) : ((scanG n f l acc).2.2 = 0 ∧ (scanG n f l acc).2.1 = 0) ∨ ((scanG n f l acc).2.2 = 340 ∧ (scanG n f l acc).1 = []) := by
  induction f generalizing l acc with
  | zero => exact .inl ⟨rfl, rfl⟩
  | succ f ih =>
    rw [scanG]
    split
    · exact .inl ⟨rfl, rfl⟩
    · split
      · exact .inr ⟨rfl, rfl⟩
      · rename_i h1 h2
        rw [if_neg (by omega)]
        have h2' : rightB (oneT (skipF false l)).1 (oneT (skipF false l)).2 = true := by simpa using h2
        have hne := rightB_ne h2'
        have hle := skipF_le false l
        have hpos : 1 ≤ (oneT (skipF false l)).2.length := by
          cases hx : (oneT (skipF false l)).2 with
          | nil => exact absurd hx hne
          | cons => simp
        have hl1 : 1 ≤ (skipF false l).length := by
          cases hx : skipF false l with
          | nil => exact absurd hx h1
          | cons => simp
        refine ih _ _ ?_
        simp only [List.length_drop, List.length_append, List.length_cons, List.length_nil]
        omega
theorem check_ok (kind : Int) (s : ByteArray) (a : Int) (w : World) (hs : s.size ≤ 1000000) (h : checkE kind s.data.toList a = 0) :
    Calls Try.prog 11 #[.agg #[.int .i64 kind, .string s, .int .i64 a]] w fun e w' => e = .returned (.int .i64 0) ∧ Below w.heap.size w w' :=
  (check_any kind s a w hs).mono fun _ _ ⟨he, hb⟩ => ⟨by rw [he, h], hb⟩

set_option maxRecDepth 100000 in
set_option maxHeartbeats 4000000 in
theorem covers_walk (v : Value) (n : Nat) (w : World) (hv : BytesIn w v n) :
    Calls Try.prog 8 #[v] w fun e w' => e = .returned (.bool true) ∧ Below w.heap.size w w' := by
  obtain ⟨p, cap, rfl, h1, h2, h3⟩ := hv
  unfold maxLen at h2
  have H3 := Lib.hid h3
  clear h3
  go_enter Try.func8, Try.ntmps8
  go_wp2_with fail
  refine (works_any w).mono ?_
  rintro e w1 ⟨rfl, hb1⟩
  have HB0 := Lib.hid hb1
  clear hb1
  go_wp2
  go_loopw [3, 4] (fun out i wr => ∃ (k : Nat) (l : List UInt8), k ≤ n ∧ k ≤ 60 ∧ i = .int .i64 k ∧ l.length ≤ 60 ∧ l.length = k ∧ wr.ownsRow w.heap.size 5 1 out l.length (bCells l) ∧ Below w.heap.size w wr) (fun _ i _ => n - (intOf i).toNat)
  case atStart => exact ⟨0, [], Nat.zero_le _, by omega, rfl, by simp, rfl, World.ownsRow_nil _ _ _ _, HB0.out⟩
  case round =>
    obtain ⟨k, l, hk, hk60, rfl, hl, hlk, hrow, hB⟩ := hrel
    have HROW := Lib.hid hrow
    have HB := Lib.hid hB
    have hBs := hB.size
    obtain ⟨pp, cap', rfl⟩ := ownsRow_form hrow
    have HLK := Lib.hid hlk
    clear hrow hB hlk HB0
    by_cases hlt : k < n ∧ k < 60
    · obtain ⟨hlt1, hlt2⟩ := hlt
      obtain ⟨b, o, rfl, hc⟩ := H3.out (by omega)
      obtain ⟨c, hc⟩ := hc k hlt1
      have c0 := below_cell HB.out hc
      obtain ⟨i0, hi, hz0, hz1, hz2⟩ := info_parts info_u8
      have hc1 : (0 : Int) ≤ (c.toNat : Int) % 22 := by omega
      have hc2 : (c.toNat : Int) % 22 < 22 := by omega
      have hc3 : (c.toNat : Int) < 256 := by have := c.toNat_lt; omega
      clear hc
      go_wp2_with (at_builtin; refine wpList_append_own _ rfl _ _ 24 rfl w.heap.size 5 i0 (.int .u8 0) 1 1 und_bytes hi hz0 hz1 hz2 rfl (by decide) _ _ _ rfl (HROW.out.alloc _) ⟨wr.heap.size, 0, none⟩ 1 1 [_] rfl rfl (cells_new _ _ _) (by simp [Value.oneCell']) (by simp [maxLen]; omega) (by omega) (by simp; omega) ?_; intro v' w2 hown' hgrow _; have HO2 := Lib.hid (own_snoc hown'); have HG : Hid (Below w.heap.size w w2) := Lib.hid ((HB.out.alloc HB.out.size _).grown hgrow (Nat.le_trans HB.out.size (by simp)) (fun b e => (HROW.out.lt b e).1)); clear hown' hgrow)
      go_roundw
      case rel =>
        obtain ⟨l', hl', ho'⟩ := HO2.out
        exact ⟨k + 1, l', by omega, by omega, by go_num, by have := HLK.out; omega, by have := HLK.out; omega, ho', HG.out⟩
      case measure => simp [intOf]; omega
    · by_cases hlt1 : k < n
      · have hlt2 : 60 ≤ k := by omega
        have hdb : decide ((k : Int) < 60) = false := by simp; omega
        have hcv := conv_own HROW.out
        have HS : Hid ((bytesOf l).data.toList = l) := Lib.hid (list_bytesOf l)
        have hsz : (bytesOf l).size = l.length := by simp [bytesOf, ByteArray.size]
        have HSZ := Lib.hid hsz
        have hsz2 : (bytesOf l).size ≤ 60 := by omega
        have hsz3 : (bytesOf l).size ≤ l.length := by omega
        have hsz4 : l.length ≤ (bytesOf l).size := by omega
        clear hsz
        go_wp2_with fail
        refine (scan_any _ _).mono ?_
        rintro e w4 ⟨v4, he, ht4, hb4⟩
        rw [HS.out] at he ht4
        have hshort := scanG_short l.length (l.length + 1) l [] (by simp; omega)
        rw [← scanT_short (by omega)] at hshort
        have hcov := @scanT_cov l
        obtain ⟨r, hr⟩ : ∃ r, scanT l = r := ⟨_, rfl⟩
        rw [hr] at he ht4 hshort hcov
        obtain ⟨toks, at_, err⟩ := r
        have hlen : toks.length ≤ 2000 := by have := scanT_len l; rw [hr] at this; exact this
        have HB4 := Lib.hid (HB.out.trans (hb4.mono HB.out.size))
        have HT4 := Lib.hid (TokS.of_toks ht4)
        obtain ⟨pt, ct, rfl⟩ := ownsRow_form ht4
        clear hb4 hr ht4 hcv
        subst he
        rcases hshort with ⟨h0, h1⟩ | ⟨h0, h1⟩
        · simp only at h0 h1
          subst h0 h1
          have HC := Lib.hid (hcov rfl).2
          clear hcov
          obtain ⟨p', c', hpc, ht1, ht1', ht2⟩ := HT4.out
          rw [List.length_map] at hpc ht1
          cases hpc
          have HT := Lib.hid ht2
          clear ht2 HT4 HROW HB
          go_wp2
          go_loopw [9, 10] (fun e i wr => ∃ (k e' : Nat), k ≤ toks.length ∧ i = .int .i64 k ∧ e = .int .i64 e' ∧ e' ≤ l.length ∧ CovL l e' (toks.drop k) ∧ Below w4.heap.size w4 wr) (fun _ i _ => toks.length - (intOf i).toNat)
          case atStart => exact ⟨0, 0, Nat.zero_le _, rfl, rfl, Nat.zero_le _, HC.out, Below.refl _ _⟩
          case round =>
            clear HC
            obtain ⟨k, e', hk, rfl, rfl, he', hcl, hBr⟩ := hrel
            have HBR := Lib.hid hBr
            have HBW := Lib.hid (HB4.out.trans (hBr.mono HB4.out.size))
            clear hBr HB4
            by_cases hlt : k < toks.length
            · obtain ⟨t, ht⟩ : ∃ t, toks[k]? = some t := ⟨_, List.getElem?_eq_getElem hlt⟩
              have hd : toks.drop k = t :: toks.drop (k + 1) := by
                rw [List.drop_eq_getElem_cons hlt]
                congr 1
                rw [List.getElem?_eq_getElem hlt] at ht
                exact Option.some.inj ht
              rw [hd] at hcl
              obtain ⟨g1, g2, g3, g4, g5, g6⟩ := hcl
              have hne : toks.map Tok.z ≠ [] := by intro h; have := congrArg List.length h; simp at this; rw [this] at hlt; simp at hlt
              obtain ⟨bt, ot, rfl, hct⟩ := HT.out hne
              obtain ⟨p0, p1, p2⟩ := hct k t.z (by rw [List.getElem?_map, ht]; rfl)
              simp only [Tok.z] at p0 p1 p2
              have HCT := Lib.hid hct
              have HTK := Lib.hid ht
              have q0 := below_cell HBR.out p0
              have q1 := below_cell HBR.out p1
              have q2 := below_cell HBR.out p2
              have HTA : Hid (TokAt (wr.alloc (.cells #[.int .i64 t.kind, .string (bytesOf t.text), .int .i64 (t.pos : Int)] 23)) wr.heap.size t.kind (bytesOf t.text) t.pos) := Lib.hid (heap_alloc_new wr _)
              have hne2 := rightB_ne g4
              have hl1 : 1 ≤ t.text.length := by cases hx : t.text with | nil => exact absurd hx hne2 | cons => simp
              have G4 := Lib.hid g4
              have G6 := Lib.hid g6
              have HCK : Hid (checkE t.kind (bytesOf t.text).data.toList (t.pos : Int) = 0) := Lib.hid (by rw [list_bytesOf]; unfold checkE; rw [if_neg]; rw [g4]; simp; omega)
              have HSEG : Hid (skipF false ((bytesOf l).extract e' t.pos).data.toList = []) := Lib.hid (by
                rw [extract_list, HS.out]
                show skipF false ((l.drop e').take (t.pos - e')) = []
                refine skip_seg (by simp; omega) ?_
                rw [g2, List.drop_drop]
                congr 1; omega)
              have hts : ((bytesOf t.text).size : Int) = (t.text.length : Int) := by simp [bytesOf, ByteArray.size]
              have HTS := Lib.hid hts
              have hts60 : (bytesOf t.text).size ≤ 60 := by omega
              have hext : (bytesOf l).extract t.pos (t.pos + (bytesOf t.text).size) = bytesOf t.text := by
                rw [extract_list, HS.out, show t.pos + (bytesOf t.text).size - t.pos = t.text.length from by simp [bytesOf, ByteArray.size]]
                show (⟨((l.drop t.pos).take t.text.length).toArray⟩ : ByteArray) = _
                rw [g5]; rfl
              have hseg : ((bytesOf l).extract e' t.pos).size ≤ 1000000 := by rw [ByteArray.size_extract]; omega
              have d0 := later_cell HTA.out.cells.1
              have d1 := later_cell HTA.out.cells.2.1
              have d2 := later_cell HTA.out.cells.2.2
              have k1 : decide (t.pos < e') = false := by simp; omega
              have k3 : decide (((bytesOf l).size : Int) < (t.pos : Int) + ((bytesOf t.text).size : Int)) = false := by simp; omega
              have k4 : (((bytesOf t.text).size : Int) == 0) = false := beq_eq_false_iff_ne.2 (by omega)
              have k5 : ((t.pos : Int) + ((bytesOf t.text).size : Int)).toNat = t.pos + (bytesOf t.text).size := by omega
              have k6 : (0 : Int) ≤ (t.pos : Int) + ((bytesOf t.text).size : Int) := by omega
              have k7 : (t.pos : Int) ≤ (t.pos : Int) + ((bytesOf t.text).size : Int) := by omega
              have k8 : (t.pos : Int) + ((bytesOf t.text).size : Int) ≤ ((bytesOf l).size : Int) := by omega
              have k9 : (e' : Int) ≤ (t.pos : Int) := by omega
              have k10 : (t.pos : Int) ≤ ((bytesOf l).size : Int) := by omega
              have k2 : IntKind.i64.wrap ((t.pos : Int) + ((bytesOf t.text).size : Int)) = (t.pos : Int) + ((bytesOf t.text).size : Int) := IntWalk.i64_in _ (by omega)
              clear hct ht hd g1 g2 g4 g5 g6 hne p0 p1 p2 hts
              go_wp2_with fail
              refine wp_region_later (by kernel_rfl) (by kernel_rfl) ?_
              repeat (go_big_quiet_step ((first | (go_at_call 11; exact Calls.later_of (check_ok _ _ _ _ (by omega) HCK.out)) | (go_at_call 27; exact Calls.later_of (blank_pos _ _ hseg HSEG.out)))))
              refine wpQuiet_nil ?_
              intro w5 hb5
              have hbw5 := alloc_trans hb5
              have HB5 := Lib.hid (HBR.out.trans (hbw5.mono HBR.out.size))
              have HBW5 := Lib.hid (HBW.out.trans (hbw5.mono HBW.out.size))
              have HT5 := Lib.hid (HTA.out.below hb5)
              have c1 := HT5.out.cells.2.1
              clear hb5 hbw5 k1 k3 k4 k5 k6 k7 k8 k9 k10 d0 d1 d2 q0 q1 q2 hext hseg HBR HBW
              go_wp2_with fail
              refine (scan_any _ _).mono ?_
              rintro e w6 ⟨v6, he, ht6, hb6⟩
              rw [list_bytesOf, scan_alone G4.out (by omega)] at he ht6
              subst he
              have HB6 := Lib.hid (HB5.out.trans (hb6.mono HB5.out.size))
              have HBW6 := Lib.hid (HBW5.out.trans (hb6.mono HBW5.out.size))
              have HT6 := Lib.hid (HT5.out.below hb6)
              have HO6 := Lib.hid (TokS.of_toks ht6)
              clear ht6 hb6 c1 HT5 HB5 HBW5
              have c1 := HT6.out.cells.2.1
              have c2 := HT6.out.cells.2.2
              go_wp2_with fail
              have HSUB : Hid (TokS w6 (.slice (some ⟨bt, ot + k * 3, none⟩) 1 (ct - k)) [t.z]) := Lib.hid ⟨_, ct - k, rfl, by simp; omega, by omega, fun _ => ⟨bt, ot + k * 3, rfl, fun j x hx => by
                have hj : j < 1 := by simpa using (List.getElem?_eq_some_iff.1 hx).1
                obtain rfl : j = 0 := by omega
                simp at hx
                subst hx
                have hc := HCT.out k t.z (by rw [List.getElem?_map, HTK.out]; rfl)
                simp only [Nat.zero_mul, Nat.add_zero]
                exact ⟨below_cell HB6.out hc.1, below_cell HB6.out hc.2.1, below_cell HB6.out hc.2.2⟩⟩⟩
              refine (equal_pos _ _ _ _ _ HO6.out HSUB.out (by simp) (by simp [Tok.z])).mono ?_
              rintro e w7 ⟨rfl, hb7⟩
              have HB7 := Lib.hid (HB6.out.trans (hb7.mono HB6.out.size))
              have HT7 := Lib.hid (HT6.out.below hb7)
              clear hb7 c1 c2 HT6 HB6 HBW6 HO6 HSUB
              have c1 := HT7.out.cells.2.1
              have c2 := HT7.out.cells.2.2
              go_wp2
              go_roundw
              case rel => exact ⟨k + 1, t.pos + t.text.length, by omega, by go_num, by rw [HTS.out]; rfl, g3, G6.out, HB7.out⟩
              case measure => simp [intOf]; omega
            · obtain rfl : k = toks.length := by omega
              have hfin : skipF false ((bytesOf l).extract e' (bytesOf l).size).data.toList = [] := by
                rw [List.drop_length] at hcl
                have h2 : skipF false (l.drop e') = [] := hcl
                rw [Lib.extract_to_end, HS.out]; exact h2
              have HFIN := Lib.hid hfin
              have hfs : ((bytesOf l).extract e' (bytesOf l).size).size ≤ 1000000 := by rw [ByteArray.size_extract]; omega
              have k1 : (e' : Int) ≤ ((bytesOf l).size : Int) := by omega
              have k2 : (0 : Int) ≤ (e' : Int) := by omega
              clear hcl hfin
              go_wp2_with fail
              refine (blank_pos _ _ hfs HFIN.out).mono ?_
              rintro e w5 ⟨rfl, hb5⟩
              go_wp2
              go_ret
              exact ⟨rfl, HBW.out.trans (hb5.mono HBW.out.size)⟩
        · simp only at h0 h1
          subst h0 h1
          clear hcov
          go_wp2
          go_ret
          exact ⟨rfl, HB4.out⟩
      · have hlt2 : n ≤ k := by omega
        have hcv := conv_own HROW.out
        have HS : Hid ((bytesOf l).data.toList = l) := Lib.hid (list_bytesOf l)
        have hsz : (bytesOf l).size = l.length := by simp [bytesOf, ByteArray.size]
        have HSZ := Lib.hid hsz
        have hsz2 : (bytesOf l).size ≤ 60 := by omega
        have hsz3 : (bytesOf l).size ≤ l.length := by omega
        have hsz4 : l.length ≤ (bytesOf l).size := by omega
        clear hsz
        go_wp2_with fail
        refine (scan_any _ _).mono ?_
        rintro e w4 ⟨v4, he, ht4, hb4⟩
        rw [HS.out] at he ht4
        have hshort := scanG_short l.length (l.length + 1) l [] (by simp; omega)
        rw [← scanT_short (by omega)] at hshort
        have hcov := @scanT_cov l
        obtain ⟨r, hr⟩ : ∃ r, scanT l = r := ⟨_, rfl⟩
        rw [hr] at he ht4 hshort hcov
        obtain ⟨toks, at_, err⟩ := r
        have hlen : toks.length ≤ 2000 := by have := scanT_len l; rw [hr] at this; exact this
        have HB4 := Lib.hid (HB.out.trans (hb4.mono HB.out.size))
        have HT4 := Lib.hid (TokS.of_toks ht4)
        obtain ⟨pt, ct, rfl⟩ := ownsRow_form ht4
        clear hb4 hr ht4 hcv
        subst he
        rcases hshort with ⟨h0, h1⟩ | ⟨h0, h1⟩
        · simp only at h0 h1
          subst h0 h1
          have HC := Lib.hid (hcov rfl).2
          clear hcov
          obtain ⟨p', c', hpc, ht1, ht1', ht2⟩ := HT4.out
          rw [List.length_map] at hpc ht1
          cases hpc
          have HT := Lib.hid ht2
          clear ht2 HT4 HROW HB
          go_wp2
          go_loopw [9, 10] (fun e i wr => ∃ (k e' : Nat), k ≤ toks.length ∧ i = .int .i64 k ∧ e = .int .i64 e' ∧ e' ≤ l.length ∧ CovL l e' (toks.drop k) ∧ Below w4.heap.size w4 wr) (fun _ i _ => toks.length - (intOf i).toNat)
          case atStart => exact ⟨0, 0, Nat.zero_le _, rfl, rfl, Nat.zero_le _, HC.out, Below.refl _ _⟩
          case round =>
            clear HC
            obtain ⟨k, e', hk, rfl, rfl, he', hcl, hBr⟩ := hrel
            have HBR := Lib.hid hBr
            have HBW := Lib.hid (HB4.out.trans (hBr.mono HB4.out.size))
            clear hBr HB4
            by_cases hlt : k < toks.length
            · obtain ⟨t, ht⟩ : ∃ t, toks[k]? = some t := ⟨_, List.getElem?_eq_getElem hlt⟩
              have hd : toks.drop k = t :: toks.drop (k + 1) := by
                rw [List.drop_eq_getElem_cons hlt]
                congr 1
                rw [List.getElem?_eq_getElem hlt] at ht
                exact Option.some.inj ht
              rw [hd] at hcl
              obtain ⟨g1, g2, g3, g4, g5, g6⟩ := hcl
              have hne : toks.map Tok.z ≠ [] := by intro h; have := congrArg List.length h; simp at this; rw [this] at hlt; simp at hlt
              obtain ⟨bt, ot, rfl, hct⟩ := HT.out hne
              obtain ⟨p0, p1, p2⟩ := hct k t.z (by rw [List.getElem?_map, ht]; rfl)
              simp only [Tok.z] at p0 p1 p2
              have HCT := Lib.hid hct
              have HTK := Lib.hid ht
              have q0 := below_cell HBR.out p0
              have q1 := below_cell HBR.out p1
              have q2 := below_cell HBR.out p2
              have HTA : Hid (TokAt (wr.alloc (.cells #[.int .i64 t.kind, .string (bytesOf t.text), .int .i64 (t.pos : Int)] 23)) wr.heap.size t.kind (bytesOf t.text) t.pos) := Lib.hid (heap_alloc_new wr _)
              have hne2 := rightB_ne g4
              have hl1 : 1 ≤ t.text.length := by cases hx : t.text with | nil => exact absurd hx hne2 | cons => simp
              have G4 := Lib.hid g4
              have G6 := Lib.hid g6
              have HCK : Hid (checkE t.kind (bytesOf t.text).data.toList (t.pos : Int) = 0) := Lib.hid (by rw [list_bytesOf]; unfold checkE; rw [if_neg]; rw [g4]; simp; omega)
              have HSEG : Hid (skipF false ((bytesOf l).extract e' t.pos).data.toList = []) := Lib.hid (by
                rw [extract_list, HS.out]
                show skipF false ((l.drop e').take (t.pos - e')) = []
                refine skip_seg (by simp; omega) ?_
                rw [g2, List.drop_drop]
                congr 1; omega)
              have hts : ((bytesOf t.text).size : Int) = (t.text.length : Int) := by simp [bytesOf, ByteArray.size]
              have HTS := Lib.hid hts
              have hts60 : (bytesOf t.text).size ≤ 60 := by omega
              have hext : (bytesOf l).extract t.pos (t.pos + (bytesOf t.text).size) = bytesOf t.text := by
                rw [extract_list, HS.out, show t.pos + (bytesOf t.text).size - t.pos = t.text.length from by simp [bytesOf, ByteArray.size]]
                show (⟨((l.drop t.pos).take t.text.length).toArray⟩ : ByteArray) = _
                rw [g5]; rfl
              have hseg : ((bytesOf l).extract e' t.pos).size ≤ 1000000 := by rw [ByteArray.size_extract]; omega
              have d0 := later_cell HTA.out.cells.1
              have d1 := later_cell HTA.out.cells.2.1
              have d2 := later_cell HTA.out.cells.2.2
              have k1 : decide (t.pos < e') = false := by simp; omega
              have k3 : decide (((bytesOf l).size : Int) < (t.pos : Int) + ((bytesOf t.text).size : Int)) = false := by simp; omega
              have k4 : (((bytesOf t.text).size : Int) == 0) = false := beq_eq_false_iff_ne.2 (by omega)
              have k5 : ((t.pos : Int) + ((bytesOf t.text).size : Int)).toNat = t.pos + (bytesOf t.text).size := by omega
              have k6 : (0 : Int) ≤ (t.pos : Int) + ((bytesOf t.text).size : Int) := by omega
              have k7 : (t.pos : Int) ≤ (t.pos : Int) + ((bytesOf t.text).size : Int) := by omega
              have k8 : (t.pos : Int) + ((bytesOf t.text).size : Int) ≤ ((bytesOf l).size : Int) := by omega
              have k9 : (e' : Int) ≤ (t.pos : Int) := by omega
              have k10 : (t.pos : Int) ≤ ((bytesOf l).size : Int) := by omega
              have k2 : IntKind.i64.wrap ((t.pos : Int) + ((bytesOf t.text).size : Int)) = (t.pos : Int) + ((bytesOf t.text).size : Int) := IntWalk.i64_in _ (by omega)
              clear hct ht hd g1 g2 g4 g5 g6 hne p0 p1 p2 hts
              go_wp2_with fail
              refine wp_region_later (by kernel_rfl) (by kernel_rfl) ?_
              repeat (go_big_quiet_step ((first | (go_at_call 11; exact Calls.later_of (check_ok _ _ _ _ (by omega) HCK.out)) | (go_at_call 27; exact Calls.later_of (blank_pos _ _ hseg HSEG.out)))))
              refine wpQuiet_nil ?_
              intro w5 hb5
              have hbw5 := alloc_trans hb5
              have HB5 := Lib.hid (HBR.out.trans (hbw5.mono HBR.out.size))
              have HBW5 := Lib.hid (HBW.out.trans (hbw5.mono HBW.out.size))
              have HT5 := Lib.hid (HTA.out.below hb5)
              have c1 := HT5.out.cells.2.1
              clear hb5 hbw5 k1 k3 k4 k5 k6 k7 k8 k9 k10 d0 d1 d2 q0 q1 q2 hext hseg HBR HBW
              go_wp2_with fail
              refine (scan_any _ _).mono ?_
              rintro e w6 ⟨v6, he, ht6, hb6⟩
              rw [list_bytesOf, scan_alone G4.out (by omega)] at he ht6
              subst he
              have HB6 := Lib.hid (HB5.out.trans (hb6.mono HB5.out.size))
              have HBW6 := Lib.hid (HBW5.out.trans (hb6.mono HBW5.out.size))
              have HT6 := Lib.hid (HT5.out.below hb6)
              have HO6 := Lib.hid (TokS.of_toks ht6)
              clear ht6 hb6 c1 HT5 HB5 HBW5
              have c1 := HT6.out.cells.2.1
              have c2 := HT6.out.cells.2.2
              go_wp2_with fail
              have HSUB : Hid (TokS w6 (.slice (some ⟨bt, ot + k * 3, none⟩) 1 (ct - k)) [t.z]) := Lib.hid ⟨_, ct - k, rfl, by simp; omega, by omega, fun _ => ⟨bt, ot + k * 3, rfl, fun j x hx => by
                have hj : j < 1 := by simpa using (List.getElem?_eq_some_iff.1 hx).1
                obtain rfl : j = 0 := by omega
                simp at hx
                subst hx
                have hc := HCT.out k t.z (by rw [List.getElem?_map, HTK.out]; rfl)
                simp only [Nat.zero_mul, Nat.add_zero]
                exact ⟨below_cell HB6.out hc.1, below_cell HB6.out hc.2.1, below_cell HB6.out hc.2.2⟩⟩⟩
              refine (equal_pos _ _ _ _ _ HO6.out HSUB.out (by simp) (by simp [Tok.z])).mono ?_
              rintro e w7 ⟨rfl, hb7⟩
              have HB7 := Lib.hid (HB6.out.trans (hb7.mono HB6.out.size))
              have HT7 := Lib.hid (HT6.out.below hb7)
              clear hb7 c1 c2 HT6 HB6 HBW6 HO6 HSUB
              have c1 := HT7.out.cells.2.1
              have c2 := HT7.out.cells.2.2
              go_wp2
              go_roundw
              case rel => exact ⟨k + 1, t.pos + t.text.length, by omega, by go_num, by rw [HTS.out]; rfl, g3, G6.out, HB7.out⟩
              case measure => simp [intOf]; omega
            · obtain rfl : k = toks.length := by omega
              have hfin : skipF false ((bytesOf l).extract e' (bytesOf l).size).data.toList = [] := by
                rw [List.drop_length] at hcl
                have h2 : skipF false (l.drop e') = [] := hcl
                rw [Lib.extract_to_end, HS.out]; exact h2
              have HFIN := Lib.hid hfin
              have hfs : ((bytesOf l).extract e' (bytesOf l).size).size ≤ 1000000 := by rw [ByteArray.size_extract]; omega
              have k1 : (e' : Int) ≤ ((bytesOf l).size : Int) := by omega
              have k2 : (0 : Int) ≤ (e' : Int) := by omega
              clear hcl hfin
              go_wp2_with fail
              refine (blank_pos _ _ hfs HFIN.out).mono ?_
              rintro e w5 ⟨rfl, hb5⟩
              go_wp2
              go_ret
              exact ⟨rfl, HBW.out.trans (hb5.mono HBW.out.size)⟩
        · simp only at h0 h1
          subst h0 h1
          clear hcov
          go_wp2
          go_ret
          exact ⟨rfl, HB4.out⟩
end Go.Proofs.Ytigppjgmfonodaa
