/- works: the chapter's examples: it returns true. -/
import Derived.Test.YtigppjgmfonodaaLexW
namespace Go.Proofs.Ytigppjgmfonodaa
open Go.RowKit

theorem ListS.nil {α : Type} (f : α → Value) (w : World) : ListS f w (.slice none 0 0) [] := ⟨none, 0, rfl, by simp, by omega, fun h => absurd rfl h⟩
theorem TokS.lit (w : World) (l : List ZTok) (t : TypeId) (hl : l.length ≤ 1000000) : TokS (w.alloc (.cells (zCells l).toArray t)) (.slice (some ⟨w.heap.size, 0, none⟩) l.length l.length) l := by
  refine ⟨_, _, rfl, Nat.le_refl _, by omega, fun _ => ⟨_, 0, rfl, fun j x hx => ?_⟩⟩
  have h := zCells_at l j x hx
  simp only [World.cell?_alloc_new, List.getElem?_toArray, Nat.zero_add]
  exact h
theorem gives_lit (w : World) (s : ByteArray) (ls : List ByteArray) (t : TypeId) (hl : ls.length ≤ 1000000) (hg : givesB s.data.toList (ls.map (·.data.toList)) = true) :
    Calls Try.prog 28 #[.string s, .slice (some ⟨w.heap.size, 0, none⟩) ls.length ls.length] (w.alloc (.cells (ls.map Value.string).toArray t)) fun e w' => e = .returned (.bool true) ∧ Below w.heap.size w w' :=
  (gives_pos _ s _ ls (ListS.lit Value.string w ls t hl) hg).mono fun _ _ ⟨he, hb⟩ => ⟨he, alloc_trans hb⟩
theorem print_lit (w : World) (l : List ZTok) (t : TypeId) (ht : l.all (fun t => decide (t.text.length ≤ 1000)) = true) (hl : l.length ≤ 1000000) (s : ByteArray) (n : Int) (hr : printZ l = (s.data.toList, n)) :
    Calls Try.prog 23 #[.slice (some ⟨w.heap.size, 0, none⟩) l.length l.length] (w.alloc (.cells (zCells l).toArray t)) fun e w' => e = .returned (.tuple #[.string s, .int .i64 n]) ∧ Below w.heap.size w w' :=
  (print_any _ _ l (TokS.lit w l t hl) (fun t h => by simpa using List.all_eq_true.1 ht t h)).mono fun e w' ⟨he, hb⟩ => ⟨by rw [he, hr, bytesOf_list], alloc_trans hb⟩

theorem print_nil (w : World) : Calls Try.prog 23 #[.slice none 0 0] w fun e w' => e = .returned (.tuple #[.string ⟨#[]⟩, .int .i64 0]) ∧ Below w.heap.size w w' :=
  (print_any w _ [] (TokS.nil _) (by simp)).mono fun _ _ ⟨he, hb⟩ => ⟨by rw [he]; rfl, hb⟩

set_option maxRecDepth 100000 in
set_option maxHeartbeats 4000000 in
theorem works_any (w : World) : Calls Try.prog 18 #[] w fun e w' => e = .returned (.bool true) ∧ Below w.heap.size w w' := by
  go_enter Try.func18, Try.ntmps18
  go_wp2_with fail
  have hsc : scanT [120, 49, 39, 32, 61, 32, 45, 51, 32, 46, 46, 52] = ([⟨1, [120, 49], 0⟩, ⟨4, [39], 2⟩, ⟨4, [61], 4⟩, ⟨4, [45], 6⟩, ⟨3, [51], 7⟩, ⟨4, [46, 46], 9⟩, ⟨3, [52], 11⟩], 0, 0) := by decide +kernel
  have HSC := Lib.hid hsc
  clear hsc
  refine (scan_any ⟨#[120, 49, 39, 32, 61, 32, 45, 51, 32, 46, 46, 52]⟩ w).mono ?_
  rintro e w1 ⟨v1, he, hts, hb1⟩
  have HS2 : Hid (scanT (⟨#[120, 49, 39, 32, 61, 32, 45, 51, 32, 46, 46, 52]⟩ : ByteArray).data.toList = _) := HSC
  rw [HS2.out] at he hts
  subst he
  obtain ⟨pt, ct, rfl, ht1, ht1', ht2⟩ := TokS.of_toks hts
  obtain ⟨bt, ot, rfl, hct⟩ := ht2 (by simp)
  have HB1 := Lib.hid hb1
  simp only [List.length_map, List.length_cons, List.length_nil, Nat.reduceAdd] at ht1 ⊢
  clear hb1 ht2 hts HSC HS2
  have c0 := later_cell (hct 0 _ rfl).2.2
  have c1 := later_cell (hct 1 _ rfl).2.2
  have c2 := later_cell (hct 2 _ rfl).2.2
  have c3 := later_cell (hct 3 _ rfl).2.2
  have c4 := later_cell (hct 4 _ rfl).2.2
  have c5 := later_cell (hct 5 _ rfl).2.2
  have c6 := later_cell (hct 6 _ rfl).2.2
  simp only [Nat.zero_mul, Nat.add_zero, Nat.reduceMul, Tok.z, Nat.add_assoc, Nat.reduceAdd] at c0 c1 c2 c3 c4 c5 c6
  clear hct
  have heq : ∀ w, (Op.equalIn 10000 61 (.agg #[.int .i64 0, .int .i64 2, .int .i64 4, .int .i64 6, .int .i64 7, .int .i64 9, .int .i64 11]) (.agg #[.int .i64 0, .int .i64 2, .int .i64 4, .int .i64 6, .int .i64 7, .int .i64 9, .int .i64 11])).run Try.prog w = .ok true w := fun _ => by kernel_rfl
  go_wp2_with fail
  refine wp_region_later (by kernel_rfl) (by kernel_rfl) ?_
  repeat (go_big_quiet_step (fail))
  refine wpQuiet_nil ?_
  intro w2 hb2
  have HB2 := Lib.hid (HB1.out.trans (hb2.mono HB1.out.size))
  clear heq hb2 HB1 c0 c1 c2 c3 c4 c5 c6
  go_wp2_with fail
  refine (gives_lit _ ⟨#[120, 49, 39, 32, 61, 32, 45, 51, 32, 46, 46, 52]⟩ [⟨#[49, 120, 49]⟩, ⟨#[52, 39]⟩, ⟨#[52, 61]⟩, ⟨#[52, 45]⟩, ⟨#[51, 51]⟩, ⟨#[52, 46, 46]⟩, ⟨#[51, 52]⟩] _ (by decide) (by decide +kernel)).mono ?_
  rintro e w3 ⟨rfl, hb3⟩
  have HB3 := Lib.hid (HB2.out.trans (hb3.mono HB2.out.size))
  clear hb3 HB2
  go_wp2_with fail
  refine (gives_lit _ ⟨#[109, 105, 110, 35, 32, 97, 10, 109, 105, 110, 101, 45, 62, 48]⟩ [⟨#[50, 109, 105, 110]⟩, ⟨#[49, 109, 105, 110, 101]⟩, ⟨#[52, 45, 62]⟩, ⟨#[51, 48]⟩] _ (by decide) (by decide +kernel)).mono ?_
  rintro e w4 ⟨rfl, hb4⟩
  have HB4 := Lib.hid (HB3.out.trans (hb4.mono HB3.out.size))
  clear hb4 HB3
  go_wp2_with fail
  refine (gives_pos _ ⟨#[]⟩ _ [] (ListS.nil _ _) (by decide +kernel)).mono ?_
  rintro e w5 ⟨rfl, hb5⟩
  have HB5 := Lib.hid (HB4.out.trans (hb5.mono HB4.out.size))
  clear hb5 HB4
  go_wp2_with fail
  refine (gives_lit _ ⟨#[60, 61, 62]⟩ [⟨#[52, 60, 61]⟩, ⟨#[52, 62]⟩] _ (by decide) (by decide +kernel)).mono ?_
  rintro e w6 ⟨rfl, hb6⟩
  have HB6 := Lib.hid (HB5.out.trans (hb6.mono HB5.out.size))
  clear hb6 HB5
  go_wp2_with fail
  refine (gives_lit _ ⟨#[33, 61, 61]⟩ [⟨#[52, 33, 61]⟩, ⟨#[52, 61]⟩] _ (by decide) (by decide +kernel)).mono ?_
  rintro e w7 ⟨rfl, hb7⟩
  have HB7 := Lib.hid (HB6.out.trans (hb7.mono HB6.out.size))
  clear hb7 HB6
  go_wp2_with fail
  refine (refused_pos _ ⟨#[97, 32, 49, 120]⟩ 2 (by decide +kernel)).mono ?_
  rintro e w8 ⟨rfl, hb8⟩
  have HB8 := Lib.hid (HB7.out.trans (hb8.mono HB7.out.size))
  clear hb8 HB7
  go_wp2_with fail
  refine (refused_pos _ ⟨#[97, 32, 48, 48, 55]⟩ 2 (by decide +kernel)).mono ?_
  rintro e w9 ⟨rfl, hb9⟩
  have HB9 := Lib.hid (HB8.out.trans (hb9.mono HB8.out.size))
  clear hb9 HB8
  go_wp2_with fail
  refine (refused_pos _ ⟨#[32, 63]⟩ 1 (by decide +kernel)).mono ?_
  rintro e w10 ⟨rfl, hb10⟩
  have HB10 := Lib.hid (HB9.out.trans (hb10.mono HB9.out.size))
  clear hb10 HB9
  go_wp2_with fail
  refine (refused_pos _ ⟨#[97, 46]⟩ 1 (by decide +kernel)).mono ?_
  rintro e w11 ⟨rfl, hb11⟩
  have HB11 := Lib.hid (HB10.out.trans (hb11.mono HB10.out.size))
  clear hb11 HB10
  go_wp2_with fail
  refine (refused_pos _ ⟨#[65]⟩ 0 (by decide +kernel)).mono ?_
  rintro e w12 ⟨rfl, hb12⟩
  have HB12 := Lib.hid (HB11.out.trans (hb12.mono HB11.out.size))
  clear hb12 HB11
  go_wp2_with fail
  refine (refused_pos _ ⟨#[97, 98, 99, 100, 101, 102, 103, 104, 105, 106, 107, 108, 109]⟩ 0 (by decide +kernel)).mono ?_
  rintro e w13 ⟨rfl, hb13⟩
  have HB13 := Lib.hid (HB12.out.trans (hb13.mono HB12.out.size))
  clear hb13 HB12
  go_wp2_with fail
  refine (refused_pos _ ⟨#[49, 50, 51, 52, 53]⟩ 0 (by decide +kernel)).mono ?_
  rintro e w14 ⟨rfl, hb14⟩
  have HB14 := Lib.hid (HB13.out.trans (hb14.mono HB13.out.size))
  clear hb14 HB13
  go_wp2_with fail
  refine (refused_pos _ ⟨#[33]⟩ 0 (by decide +kernel)).mono ?_
  rintro e w15 ⟨rfl, hb15⟩
  have HB15 := Lib.hid (HB14.out.trans (hb15.mono HB14.out.size))
  clear hb15 HB14
  go_wp2_with fail
  refine (print_lit _ [⟨1, [97], 0⟩, ⟨4, [45, 62], 0⟩, ⟨3, [49, 48], 0⟩] _ (by decide) (by decide) ⟨#[97, 32, 45, 62, 32, 49, 48]⟩ 0 (by decide +kernel)).mono ?_
  rintro e w16 ⟨rfl, hb16⟩
  have HB16 := Lib.hid (HB15.out.trans (hb16.mono HB15.out.size))
  clear hb16 HB15
  go_wp2_with fail
  refine (print_lit _ [⟨1, [109, 105, 110], 0⟩] _ (by decide) (by decide) ⟨#[]⟩ 340 (by decide +kernel)).mono ?_
  rintro e w17 ⟨rfl, hb17⟩
  have HB17 := Lib.hid (HB16.out.trans (hb17.mono HB16.out.size))
  clear hb17 HB16
  go_wp2_with fail
  refine (print_nil _).mono ?_
  rintro e w18 ⟨rfl, hb18⟩
  have HB18 := Lib.hid (HB17.out.trans (hb18.mono HB17.out.size))
  clear hb18 HB17
  go_wp2
  go_ret
  exact ⟨rfl, HB18.out⟩
end Go.Proofs.Ytigppjgmfonodaa
