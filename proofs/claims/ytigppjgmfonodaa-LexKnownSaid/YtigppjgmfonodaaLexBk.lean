/- The walk of LexBack. -/
import Derived.Test.YtigppjgmfonodaaPad
import Derived.Test.YtigppjgmfonodaaDrf
import Derived.Test.YtigppjgmfonodaaLexX
import Derived.Test.YtigppjgmfonodaaLexY
namespace Go.Proofs.Ytigppjgmfonodaa
open Go.RowKit

theorem DraftIn.below {W w : World} {v : Value} {n : Nat} (h : DraftIn W v n) (hb : Below W.heap.size W w) : DraftIn w v n := by
  obtain ⟨p, cap, rfl, h1, h2, h3⟩ := h
  refine ⟨p, cap, rfl, h1, h2, fun hn => ?_⟩
  obtain ⟨b, o, rfl, hc⟩ := h3 hn
  refine ⟨b, o, rfl, fun j hj => ?_⟩
  obtain ⟨k, wh, u, ls, m, e0, e1, e2, e3, hl, hm⟩ := hc j hj
  exact ⟨k, wh, u, ls, m, below_cell hb e0, below_cell hb e1, below_cell hb e2, below_cell hb e3, hl.below hb, hm⟩
theorem BytesIn.below {W w : World} {v : Value} {n : Nat} (h : BytesIn W v n) (hb : Below W.heap.size W w) : BytesIn w v n := by
  obtain ⟨p, cap, rfl, h1, h2, h3⟩ := h
  refine ⟨p, cap, rfl, h1, h2, fun hn => ?_⟩
  obtain ⟨b, o, rfl, hc⟩ := h3 hn
  refine ⟨b, o, rfl, fun j hj => ?_⟩
  obtain ⟨c, e⟩ := hc j hj
  exact ⟨c, below_cell hb e⟩

theorem at_world {R : World → Prop} {W : World} (F : World → Prop) (h : F W) (k : ∀ w', F w' → R w') : R W := k W h
theorem bytesOf_size (a : List UInt8) : (bytesOf a).size = a.length := by simp [bytesOf, ByteArray.size]

/-- What is known of a list of drafts' tokens that is printed. -/
theorem drafts_printed {l : List ZTok} (h : ∀ t ∈ l, Drafty t) (hl : l.length ≤ 60) :
    printZ l = (Lib.join (l.map (·.text)) [32], 0) ∧ scanT (Lib.join (l.map (·.text)) [32]) = (toks 0 (spaced l), 0, 0) ∧ ∀ t ∈ l, t.text.length ≤ 12 := by
  have h12 : ∀ t ∈ l, t.text.length ≤ 12 := fun t ht => right_len (h t ht).1
  have hj := join_le (l.map (·.text)) 12 (by intro x hx; obtain ⟨t, ht, rfl⟩ := List.mem_map.1 hx; exact h12 t ht)
  rw [List.length_map] at hj
  have hj2 : (Lib.join (l.map (·.text)) [32]).length ≤ 20000 := by omega
  refine ⟨?_, scan_join (fun t ht => (h t ht).1) (by omega) hj2, h12⟩
  have hok : l.all okTok = true := by
    rw [List.all_eq_true]
    intro t ht
    obtain ⟨h1, h2, h3⟩ := h t ht
    unfold okTok checkE
    rw [if_neg (by rw [h1]; simp; omega)]
    rfl
  unfold printZ
  rw [if_neg (by omega), if_neg (by rw [hok]; simp), if_neg (by omega)]

def fillL : List (List UInt8) := [[32], [32, 32], [10], [32, 35, 32, 120, 32, 43, 32, 39, 32, 63, 32, 65, 10], [10, 10, 32], [32, 35, 10, 35, 10]]
theorem fill_cell (w : World) (t : TypeId) (j : Nat) (h : j < 6) : (w.alloc (.cells #[.string ⟨#[32]⟩, .string ⟨#[32, 32]⟩, .string ⟨#[10]⟩, .string ⟨#[32, 35, 32, 120, 32, 43, 32, 39, 32, 63, 32, 65, 10]⟩, .string ⟨#[10, 10, 32]⟩, .string ⟨#[32, 35, 10, 35, 10]⟩] t)).cell? ⟨w.heap.size, j, none⟩ = some (.string (bytesOf (fillL.getD j []))) := by
  rw [World.cell?_alloc_new]
  have hj : j = 0 ∨ j = 1 ∨ j = 2 ∨ j = 3 ∨ j = 4 ∨ j = 5 := by omega
  rcases hj with rfl | rfl | rfl | rfl | rfl | rfl <;> rfl
theorem fill_sep (j : Nat) (h : j < 6) : Sep (fillL.getD j []) ∧ (fillL.getD j []).length ≤ 13 := by
  have hj : j = 0 ∨ j = 1 ∨ j = 2 ∨ j = 3 ∨ j = 4 ∨ j = 5 := by omega
  rcases hj with rfl | rfl | rfl | rfl | rfl | rfl
  · exact ⟨⟨fun y => by simp [fillL, skipF], 32, _, rfl, .inl rfl⟩, by decide⟩
  · exact ⟨⟨fun y => by simp [fillL, skipF], 32, _, rfl, .inl rfl⟩, by decide⟩
  · exact ⟨⟨fun y => by simp [fillL, skipF], 10, _, rfl, .inr (.inl rfl)⟩, by decide⟩
  · exact ⟨⟨fun y => by simp [fillL, skipF], 32, _, rfl, .inl rfl⟩, by decide⟩
  · exact ⟨⟨fun y => by simp [fillL, skipF], 10, _, rfl, .inr (.inl rfl)⟩, by decide⟩
  · exact ⟨⟨fun y => by simp [fillL, skipF], 32, _, rfl, .inl rfl⟩, by decide⟩
theorem padded_of {items : List (List UInt8 × ZTok)} (b : Bool) (h : ∀ x ∈ items, Sep x.1 ∧ rightB x.2.kind x.2.text = true) : Padded b items := by
  induction items generalizing b with
  | nil => trivial
  | cons x r ih =>
    obtain ⟨h1, h2⟩ := h x (List.mem_cons_self ..)
    exact ⟨h1.1, fun _ => h1, h2, ih true (fun y hy => h y (List.mem_cons_of_mem _ hy))⟩
abbrev posV (t : Tok) : Value := .int .i64 (t.pos : Int)
theorem info_int : (Try.prog.info? 3).map (fun i => (i.zero, i.size, i.bytes)) = some (some (.int .i64 0), 1, 8) := by kernel_rfl
theorem und_ints : Try.prog.underlying 51 = some (.slice 3) := by kernel_rfl

/-- A text of drafts' tokens behind fillers, and the ends of the fillers. -/
structure Wide (l : List ZTok) (k : Nat) (items : List (List UInt8 × ZTok)) : Prop where
  len : items.length = k
  same : items.map (·.2) = l.take k
  each : ∀ x ∈ items, Sep x.1 ∧ x.1.length ≤ 13
theorem Wide.start (l : List ZTok) : Wide l 0 [] := ⟨rfl, by simp, by simp⟩
theorem Wide.snoc {l : List ZTok} {k : Nat} {items : List (List UInt8 × ZTok)} (h : Wide l k items) {t : ZTok} (ht : l[k]? = some t) {s : List UInt8} (hs : Sep s ∧ s.length ≤ 13) : Wide l (k + 1) (items ++ [(s, t)]) := by
  refine ⟨by simp [h.len], by rw [List.map_append, h.same, List.take_add_one, ht]; rfl, fun x hx => ?_⟩
  rcases List.mem_append.1 hx with h1 | h1
  · exact h.each x h1
  · rw [List.mem_singleton.1 h1]; exact hs
theorem Wide.small {l : List ZTok} {k : Nat} {items : List (List UInt8 × ZTok)} (h : Wide l k items) (hd : ∀ t ∈ l, Drafty t) (hk : k ≤ 60) : (bytesOf (pad items)).size ≤ 1500 := by
  have hm : ∀ x ∈ items, x.2 ∈ l := fun x hx => by
    have : x.2 ∈ items.map (·.2) := List.mem_map.2 ⟨x, hx, rfl⟩
    rw [h.same] at this
    exact List.mem_of_mem_take this
  have hp := pad_len_le items 25 (fun x hx => by have h1 := (h.each x hx).2; have h2 := right_len (hd _ (hm x hx)).1; omega)
  rw [h.len] at hp
  rw [bytesOf_size]; omega
theorem Wide.scans {l : List ZTok} {items : List (List UInt8 × ZTok)} (h : Wide l l.length items) (hd : ∀ t ∈ l, Drafty t) (hl : l.length ≤ 60) :
    scanT (pad items ++ [32, 35, 32, 101, 110, 100]) = (toks 0 items, 0, 0) ∧ ((toks 0 items).map Tok.z).map (fun t => (t.kind, t.text)) = l.map (fun t => (t.kind, t.text)) := by
  have hs : items.map (·.2) = l := by rw [h.same, List.take_length]
  have hm : ∀ x ∈ items, x.2 ∈ l := fun x hx => by rw [← hs]; exact List.mem_map.2 ⟨x, hx, rfl⟩
  have hp := pad_len_le items 25 (fun x hx => by have h1 := (h.each x hx).2; have h2 := right_len (hd _ (hm x hx)).1; omega)
  rw [h.len] at hp
  refine ⟨scan_padded (padded_of false fun x hx => ⟨(h.each x hx).1, (hd _ (hm x hx)).1⟩) (.inr ⟨32, _, rfl, .inl rfl⟩) (by decide) (by have := h.len; omega) (by simp; omega), ?_⟩
  have h1 := toks_same 0 items
  rw [← hs]
  simp only [List.map_map]
  exact h1
theorem row_snoc {w : World} {base : Nat} {v : Value} {items : List (List UInt8 × ZTok)} {s : List UInt8} {t : ZTok} {z : Int} (hz : z = (((pad items).length + s.length : Nat) : Int))
    (h : w.ownsRow base 3 1 v (items.length + 1) ((toks 0 items).map posV ++ [.int .i64 z])) : w.ownsRow base 3 1 v (items ++ [(s, t)]).length ((toks 0 (items ++ [(s, t)])).map posV) := by
  subst hz
  rw [toks_snoc, List.map_append, List.length_append, Nat.zero_add]
  exact h

set_option maxRecDepth 100000 in
set_option maxHeartbeats 4000000 in
theorem back_walk (v f : Value) (n m : Nat) (w : World) (hv : DraftIn w v n) (hf : BytesIn w f m) :
    Calls Try.prog 6 #[v, f] w fun e w' => e = .returned (.bool true) ∧ Below w.heap.size w w' := by
  have HV := Lib.hid hv
  have HF := Lib.hid hf
  clear hv hf
  go_enter Try.func6, Try.ntmps6
  go_wp2_with fail
  refine (works_any _).mono ?_
  rintro e w0 ⟨rfl, hb0⟩
  have HB0 := Lib.hid hb0
  have HV0 := Lib.hid (HV.out.below hb0)
  clear hb0 HV
  go_wp2_with fail
  refine (drafted_any v n 60 w0 HV0.out (by omega)).mono ?_
  rintro e w1 ⟨r, l, rfl, hl, hdr, hT, hb1⟩
  have HDR := Lib.hid hdr
  have HB1 := Lib.hid (HB0.out.trans (hb1.mono HB0.out.size))
  have HT := Lib.hid hT
  have HP := Lib.hid (drafts_printed hdr hl)
  clear hdr hb1 HB0 HV0 hT
  go_wp2_with fail
  refine (print_any _ _ l HT.out (fun t ht => by have := HP.out.2.2 t ht; omega)).mono ?_
  rintro e w2 ⟨rfl, hb2⟩
  rw [HP.out.1]
  have HB2 := Lib.hid (HB1.out.trans (hb2.mono HB1.out.size))
  have HT2 := Lib.hid (HT.out.below hb2)
  clear hb2 HB1 HT
  go_wp2_with fail
  refine (scan_any _ _).mono ?_
  rintro e w3 ⟨v3, rfl, ht3, hb3⟩
  have HSC : Hid (scanT (bytesOf (Lib.join (l.map (·.text)) [32])).data.toList = (toks 0 (spaced l), 0, 0)) := Lib.hid (by rw [list_bytesOf]; exact HP.out.2.1)
  rw [HSC.out] at ht3 ⊢
  have HT3 := Lib.hid (TokS.of_toks ht3)
  have HL3 := Lib.hid (HT2.out.below hb3)
  have HB3 := Lib.hid (HB2.out.trans (hb3.mono HB2.out.size))
  clear ht3 hb3 HT2 HB2 HSC
  go_wp2_with fail
  refine (equal_pos _ _ _ _ l HT3.out HL3.out (by simp [toks_length, spaced_length]; omega) (spaced_same l)).mono ?_
  rintro e w4 ⟨rfl, hb4⟩
  have HB4 := Lib.hid (HB3.out.trans (hb4.mono HB3.out.size))
  have HL4 := Lib.hid (HL3.out.below hb4)
  clear hb4 HT3 HL3 HB3
  have HF4 := Lib.hid (HF.out.below HB4.out)
  clear HF
  go_wp2
  refine at_world (R := Code.wp _ _ _ _) (F := fun w5 => (∀ j, j < 6 → w5.cell? ⟨w4.heap.size, j, none⟩ = some (.string (bytesOf (fillL.getD j [])))) ∧ Below w4.heap.size w4 w5) ⟨fill_cell w4 _, (Below.refl _ _).alloc (Nat.le_refl _) _⟩ ?_
  rintro w5 ⟨hfc, hb5⟩
  have HFC := Lib.hid hfc
  have HL5 := Lib.hid (HL4.out.below hb5)
  have HF5 := Lib.hid (HF4.out.below hb5)
  have HB5 := Lib.hid (HB4.out.trans (hb5.mono HB4.out.size))
  clear hfc hb5 HL4 HB4 HF4
  obtain ⟨pt, ct, rfl, ht1, ht1', ht2⟩ := HL5.out
  have HT5 := Lib.hid ht2
  obtain ⟨pf, cf, rfl, hf1, hf2, hf3⟩ := HF5.out
  have HF3 := Lib.hid hf3
  unfold maxLen at hf2
  clear ht2 hf3
  go_loopw [11, 14, 15] (fun wd ats i wr => ∃ (k : Nat) (items : List (List UInt8 × ZTok)), k ≤ l.length ∧ i = .int .i64 k ∧ Wide l k items ∧ wd = .string (bytesOf (pad items)) ∧ wr.ownsRow w5.heap.size 3 1 ats items.length ((toks 0 items).map posV) ∧ Below w5.heap.size w5 wr) (fun _ _ i _ => l.length - (intOf i).toNat)
  case atStart => exact ⟨0, [], Nat.zero_le _, rfl, Wide.start l, rfl, World.ownsRow_nil _ _ _ _, Below.refl _ _⟩
  case round =>
    obtain ⟨k, items, hk, rfl, hW, rfl, hrow, hB⟩ := hrel
    have HW := Lib.hid hW
    have HROW := Lib.hid hrow
    have HB := Lib.hid hB
    have hBs := hB.size
    obtain ⟨pp, cap', rfl⟩ := ownsRow_form hrow
    clear hrow hB hW
    by_cases hlt : k < l.length
    · have hne : l ≠ [] := by rintro rfl; simp at hlt
      obtain ⟨bt, ot, rfl, hct⟩ := HT5.out hne
      obtain ⟨t, ht⟩ : ∃ t, l[k]? = some t := ⟨_, List.getElem?_eq_getElem hlt⟩
      obtain ⟨_, t1, _⟩ := hct k t ht
      obtain ⟨i0, hi, hz0, hz1, hz2⟩ := info_parts info_int
      by_cases hfm : k < m
      · obtain ⟨bf, of, rfl, hcf⟩ := HF3.out (by omega)
        obtain ⟨c, hc⟩ := hcf k hfm
        have c0 := below_cell HB.out hc
        have hc1 : (0 : Int) ≤ (c.toNat : Int) % 6 := by omega
        have hc2 : (c.toNat : Int) % 6 < 6 := by omega
        have hc3 : (c.toNat : Int) < 256 := by have := c.toNat_lt; omega
        have f0 := below_cell HB.out (HFC.out (c.toNat % 6) (by omega))
        have HS0 := Lib.hid (fill_sep (c.toNat % 6) (by omega))
        obtain ⟨S, hS⟩ : ∃ S, fillL.getD (c.toNat % 6) [] = S := ⟨_, rfl⟩
        have HS : Hid (Sep S ∧ S.length ≤ 13) := Lib.hid (by rw [← hS]; exact HS0.out)
        rw [hS] at f0
        clear hc hcf hct HS0 hS
        have HSZ : Hid (((bytesOf (pad items)).size : Int) + ((bytesOf S).size : Int) = (((pad items).length + S.length : Nat) : Int)) := Lib.hid (by rw [bytesOf_size, bytesOf_size]; omega)
        have hq1 := HW.out.small HDR.out (by omega)
        have hq2 : (bytesOf S).size ≤ 13 := by rw [bytesOf_size]; exact HS.out.2
        have hq3 : (bytesOf t.text).size ≤ 12 := by rw [bytesOf_size]; exact HP.out.2.2 t (List.mem_of_getElem? ht)
        go_wp2_with (at_builtin; refine wpList_append_own _ rfl _ _ 51 rfl w5.heap.size 3 i0 (.int .i64 0) 1 8 und_ints hi hz0 hz1 hz2 rfl (by decide) _ _ _ rfl (HROW.out.alloc _) ⟨wr.heap.size, 0, none⟩ 1 1 [_] rfl rfl (cells_new _ _ _) (by simp [Value.oneCell']) (by simp [maxLen]; have := HW.out.len; omega) (by have := HW.out.len; omega) (by simp; have := HW.out.len; omega) ?_; intro v' w7 hown' hgrow _; have HO2 : Hid (w7.ownsRow w5.heap.size 3 1 v' (items ++ [(S, t)]).length ((toks 0 (items ++ [(S, t)])).map posV)) := Lib.hid (row_snoc HSZ.out hown'); have HG : Hid (Below w5.heap.size w5 w7) := Lib.hid ((HB.out.alloc HB.out.size _).grown hgrow (Nat.le_trans HB.out.size (by simp)) (fun b e => (HROW.out.lt b e).1)); clear hown' hgrow; have c9 := below_cell HG.out t1)
        go_roundw
        case rel => exact ⟨k + 1, items ++ [(S, t)], by omega, by go_num, HW.out.snoc ht HS.out, by rw [pad_snoc, bytesOf_append, bytesOf_append], HO2.out, HG.out⟩
        case measure => simp [intOf]; omega
      · have f0 := below_cell HB.out (HFC.out 0 (by omega))
        have HS := Lib.hid (fill_sep 0 (by omega))
        obtain ⟨S, hS⟩ : ∃ S, fillL.getD 0 [] = S := ⟨_, rfl⟩
        rw [hS] at f0 HS
        clear hct hS
        have HSZ : Hid (((bytesOf (pad items)).size : Int) + ((bytesOf S).size : Int) = (((pad items).length + S.length : Nat) : Int)) := Lib.hid (by rw [bytesOf_size, bytesOf_size]; omega)
        have hq1 := HW.out.small HDR.out (by omega)
        have hq2 : (bytesOf S).size ≤ 13 := by rw [bytesOf_size]; exact HS.out.2
        have hq3 : (bytesOf t.text).size ≤ 12 := by rw [bytesOf_size]; exact HP.out.2.2 t (List.mem_of_getElem? ht)
        go_wp2_with (at_builtin; refine wpList_append_own _ rfl _ _ 51 rfl w5.heap.size 3 i0 (.int .i64 0) 1 8 und_ints hi hz0 hz1 hz2 rfl (by decide) _ _ _ rfl (HROW.out.alloc _) ⟨wr.heap.size, 0, none⟩ 1 1 [_] rfl rfl (cells_new _ _ _) (by simp [Value.oneCell']) (by simp [maxLen]; have := HW.out.len; omega) (by have := HW.out.len; omega) (by simp; have := HW.out.len; omega) ?_; intro v' w7 hown' hgrow _; have HO2 : Hid (w7.ownsRow w5.heap.size 3 1 v' (items ++ [(S, t)]).length ((toks 0 (items ++ [(S, t)])).map posV)) := Lib.hid (row_snoc HSZ.out hown'); have HG : Hid (Below w5.heap.size w5 w7) := Lib.hid ((HB.out.alloc HB.out.size _).grown hgrow (Nat.le_trans HB.out.size (by simp)) (fun b e => (HROW.out.lt b e).1)); clear hown' hgrow; have c9 := below_cell HG.out t1)
        go_roundw
        case rel => exact ⟨k + 1, items ++ [(S, t)], by omega, by go_num, HW.out.snoc ht HS.out, by rw [pad_snoc, bytesOf_append, bytesOf_append], HO2.out, HG.out⟩
        case measure => simp [intOf]; omega
    · obtain rfl : k = l.length := by omega
      have hq1 := HW.out.small HDR.out hl
      have HSC : Hid (scanT (bytesOf (pad items) ++ ⟨#[32, 35, 32, 101, 110, 100]⟩).data.toList = (toks 0 items, 0, 0)) := Lib.hid (by
        have h := (HW.out.scans HDR.out hl).1
        rw [← list_bytesOf (pad items ++ _), ← bytesOf_append] at h
        exact h)
      have HAT := Lib.hid (ListS.of_own (f := posV) (l := toks 0 items) (by rw [toks_length]; exact HROW.out))
      have HL6 := Lib.hid (HL5.out.below HB.out)
      have HB6 := Lib.hid (HB5.out.trans (HB.out.mono HB5.out.size))
      clear HROW HB HB5 HL5
      go_wp2_with fail
      refine (scan_any _ _).mono ?_
      rintro e w7 ⟨v7, rfl, ht7, hb7⟩
      rw [HSC.out] at ht7 ⊢
      have HT7 := Lib.hid (TokS.of_toks ht7)
      have HL7 := Lib.hid (HL6.out.below hb7)
      have HAT7 := Lib.hid (HAT.out.below hb7)
      have HB7 := Lib.hid (HB6.out.trans (hb7.mono HB6.out.size))
      clear ht7 hb7 HL6 HAT HB6 HSC
      go_wp2_with fail
      refine (equal_pos _ _ _ _ l HT7.out HL7.out (by rw [List.length_map, toks_length]; have := HW.out.len; omega) (HW.out.scans HDR.out hl).2).mono ?_
      rintro e w8 ⟨rfl, hb8⟩
      have HT8 := Lib.hid (HT7.out.below hb8)
      have HAT8 := Lib.hid (HAT7.out.below hb8)
      have HB8 := Lib.hid (HB7.out.trans (hb8.mono HB7.out.size))
      clear hb8 HT7 HAT7 HL7 HB7 HT5 HF3 HF5 HFC
      have HLEN : Hid ((toks 0 items).length = l.length) := Lib.hid (by rw [toks_length, HW.out.len])
      obtain ⟨Z, hZ⟩ : ∃ Z, toks 0 items = Z := ⟨_, rfl⟩
      rw [hZ] at HT8 HAT8 HLEN
      have HILEN := Lib.hid HW.out.len
      obtain ⟨pv, cv, rfl, hv1, hv1', hv2⟩ := HT8.out
      have HV2 := Lib.hid hv2
      obtain ⟨pa, ca, hpa, ha1, ha1', ha2⟩ := HAT8.out
      have HA2 := Lib.hid ha2
      clear hv2 ha2
      rw [List.length_map] at *
      go_wp2
      go_loopw [20] (fun i wr => ∃ k : Nat, k ≤ Z.length ∧ i = .int .i64 k ∧ Below w8.heap.size w8 wr) (fun i _ => Z.length - (intOf i).toNat)
      case atStart => exact ⟨0, Nat.zero_le _, rfl, Below.refl _ _⟩
      case round =>
        obtain ⟨k, hk2, rfl, hB⟩ := hrel
        by_cases hlt2 : k < Z.length
        · have hne : Z ≠ [] := by rintro rfl; simp at hlt2
          obtain ⟨bv, ov, rfl, hcv⟩ := HV2.out (by simpa using hne)
          obtain ⟨ba, oa, rfl, hca⟩ := HA2.out hne
          obtain ⟨z, hz⟩ : ∃ z, Z[k]? = some z := ⟨_, List.getElem?_eq_getElem hlt2⟩
          obtain ⟨_, _, p2⟩ := hcv k z.z (by rw [List.getElem?_map, hz]; rfl)
          have q2 := hca k z hz
          have p2' := later_cell (below_cell hB p2)
          have q2' := later_cell (below_cell hB q2)
          change ∀ x : Later wr, x.world.cell? _ = some (.int .i64 (z.pos : Int)) at p2'
          have HB := Lib.hid hB
          clear hcv hca hz p2 q2 hne hpa hB
          go_wp2_with fail
          refine wp_region_later (by kernel_rfl) (by kernel_rfl) ?_
          repeat (go_big_quiet_step (fail))
          refine wpQuiet_nil ?_
          intro w9 hb9
          go_wp2
          go_roundw
          case rel => exact ⟨k + 1, by omega, by go_num, HB.out.trans (hb9.mono HB.out.size)⟩
          case measure => simp [intOf]; omega
        · go_wp2
          go_ret
          exact ⟨rfl, HB8.out.trans (hB.mono HB8.out.size)⟩
end Go.Proofs.Ytigppjgmfonodaa
