/- gives, refused: where the text gives what is told, they return true. -/
import Derived.Test.YtigppjgmfonodaaLexV
namespace Go.Proofs.Ytigppjgmfonodaa
open Go.RowKit

def goodP (s : List UInt8) (t : Tok) (x : List UInt8) : Bool :=
  match x with
  | [] => false
  | c :: r => r == t.text && decide (48 ≤ c.toNat) && t.kind == (c.toNat : Int) - 48 && decide (t.pos ≤ s.length) && Lib.hasPrefix (s.drop t.pos) t.text
def allP (s : List UInt8) : List Tok → List (List UInt8) → Bool
  | [], [] => true
  | t :: r, x :: q => goodP s t x && allP s r q
  | _, _ => false
def givesB (s : List UInt8) (ls : List (List UInt8)) : Bool := (scanT s).2 == (0, 0) && allP s (scanT s).1 ls

theorem allP_len {s : List UInt8} : ∀ {l : List Tok} {q : List (List UInt8)}, allP s l q = true → l.length = q.length
  | [], [], _ => rfl
  | [], _ :: _, h => by simp [allP] at h
  | _ :: _, [], h => by simp [allP] at h
  | t :: r, x :: q, h => by
    simp only [allP, Bool.and_eq_true] at h
    simp [allP_len h.2]
theorem allP_at {s : List UInt8} : ∀ {l : List Tok} {q : List (List UInt8)} (k : Nat) (t : Tok) (x : List UInt8), allP s l q = true → l[k]? = some t → q[k]? = some x → goodP s t x = true
  | [], [], k, t, x, _, h, _ => by simp at h
  | [], _ :: _, _, _, _, h, _, _ => by simp [allP] at h
  | _ :: _, [], _, _, _, h, _, _ => by simp [allP] at h
  | t :: r, x :: q, 0, t', x', h, h1, h2 => by
    simp only [allP, Bool.and_eq_true] at h
    simp at h1 h2; subst h1 h2; exact h.1
  | t :: r, x :: q, k + 1, t', x', h, h1, h2 => by
    simp only [allP, Bool.and_eq_true] at h
    exact allP_at k t' x' h.2 (by simpa using h1) (by simpa using h2)

theorem hasPrefix_b (s p : ByteArray) (w : World) (b : Bool) (h : Lib.hasPrefix s.data.toList p.data.toList = b) :
    Calls Try.prog 41 #[.string s, .string p] w fun e w' => e = .returned (.bool b) ∧ Below w.heap.size w w' :=
  (Try.strings_HasPrefix s p w).mono fun e w' ⟨he, hw⟩ => ⟨by rw [he, h], by rw [hw]; exact Below.refl _ _⟩

set_option maxRecDepth 100000 in
set_option maxHeartbeats 4000000 in
theorem gives_pos (w : World) (s : ByteArray) (v : Value) (ls : List ByteArray) (hv : ListS Value.string w v ls) (hg : givesB s.data.toList (ls.map (·.data.toList)) = true) :
    Calls Try.prog 28 #[.string s, v] w fun e w' => e = .returned (.bool true) ∧ Below w.heap.size w w' := by
  obtain ⟨pa, ca, rfl, ha1, ha1', ha2⟩ := hv
  have HA := Lib.hid ha2
  obtain ⟨r, hr⟩ : ∃ r, scanT s.data.toList = r := ⟨_, rfl⟩
  unfold givesB at hg
  rw [hr] at hg
  simp only [Bool.and_eq_true, beq_iff_eq] at hg
  obtain ⟨hr2, hall⟩ := hg
  obtain ⟨toks, at_, err⟩ := r
  cases hr2
  have hlen := allP_len hall
  simp only [List.length_map] at hlen
  have HALL := Lib.hid hall
  have HR := Lib.hid hr
  rw [← hlen]
  rw [← hlen] at ha1
  have HL := Lib.hid hlen
  clear hr hall hlen ha2
  go_enter Try.func28, Try.ntmps28
  go_wp2_with fail
  refine (scan_any s w).mono ?_
  rintro e w1 ⟨v1, he, hts, hb1⟩
  rw [HR.out] at he hts
  subst he
  have hts2 := TokS.of_toks hts
  obtain ⟨pt, ct, rfl, ht1, ht1', ht2⟩ := hts2
  have HT := Lib.hid ht2
  have HB1 := Lib.hid hb1
  simp only [List.length_map] at ht1 ⊢
  clear ht2 hts hb1
  have z1 : ((0 : Nat) : Int) = 0 := rfl
  go_wp2
  go_loopw [8] (fun i wr => ∃ k : Nat, k ≤ toks.length ∧ i = .int .i64 k ∧ Below w1.heap.size w1 wr) (fun i _ => toks.length - (intOf i).toNat)
  case atStart => exact ⟨0, Nat.zero_le _, rfl, Below.refl _ _⟩
  case round =>
    obtain ⟨k, hk, rfl, hB⟩ := hrel
    by_cases hlt : k < toks.length
    · have hne : ls ≠ [] := by rintro rfl; have := HL.out; simp at this; rw [this] at hlt; simp at hlt
      have hne2 : toks.map Tok.z ≠ [] := by intro h; have := congrArg List.length h; simp at this; rw [this] at hlt; simp at hlt
      obtain ⟨ba, oa, rfl, hca⟩ := HA.out hne
      obtain ⟨bt, ot, rfl, hct⟩ := HT.out hne2
      obtain ⟨t, ht⟩ : ∃ t, toks[k]? = some t := ⟨_, List.getElem?_eq_getElem hlt⟩
      obtain ⟨x, hx⟩ : ∃ x, ls[k]? = some x := ⟨_, List.getElem?_eq_getElem (by rw [← HL.out]; exact hlt)⟩
      have hgp := allP_at k t x.data.toList HALL.out ht (by rw [List.getElem?_map, hx]; rfl)
      have q0 := hca k x hx
      obtain ⟨p0, p1, p2⟩ := hct k t.z (by rw [List.getElem?_map, ht]; rfl)
      have q0' := later_cell (below_cell hB (below_cell HB1.out q0))
      have p0' := later_cell (below_cell hB p0)
      have p1' := later_cell (below_cell hB p1)
      have p2' := later_cell (below_cell hB p2)
      simp only [Tok.z] at p0' p1' p2'
      unfold goodP at hgp
      cases hxl : x.data.toList with
      | nil => rw [hxl] at hgp; simp at hgp
      | cons c rr =>
        rw [hxl] at hgp
        simp only [Bool.and_eq_true, beq_iff_eq, decide_eq_true_eq] at hgp
        obtain ⟨⟨⟨⟨g1, g2⟩, g3⟩, g4⟩, g5⟩ := hgp
        have hxs : x.size = rr.length + 1 := by have : x.data.toList.length = x.size := by simp
                                                rw [← this, hxl]; rfl
        have hx0 : 0 < x.size := by omega
        have hc0 : x[0] = c := by
          have h1 : x.data.toList[0]? = some c := by rw [hxl]; rfl
          have h2 : x.data.toList[0]? = some x[0] := by rw [List.getElem?_eq_getElem (by simpa using hx0)]; rfl
          rw [h1] at h2; exact (Option.some.inj h2).symm
        have hext : x.extract 1 x.size = bytesOf t.text := by
          rw [extract_list, hxl, ← g1]; unfold bytesOf; simp [hxs]
        have hkd : (x[0].toNat : Int) - 48 = t.kind := by rw [hc0, g3]
        have hsl : (t.pos : Int) ≤ s.size := by simp at g4; omega
        have HPX : Hid (Lib.hasPrefix (s.extract t.pos s.size).data.toList (bytesOf t.text).data.toList = true) := Lib.hid (by
          rw [list_bytesOf, Lib.extract_to_end]; exact g5)
        have hx48 : (48 : Int) ≤ x[0].toNat := by rw [hc0]; omega
        have hkm : t.kind % 256 = t.kind := by have := x[0].toNat_lt; omega
        have hd1 : decide ((x.size : Int) < 1) = false := by simp; omega
        have hd2 : decide ((t.pos : Int) < 0) = false := by simp
        have hd3 : decide (s.size < t.pos) = false := by simp; omega
        clear hca hct ht hx p0 p1 p2 q0 hne hne2 hxl g1 g2 g3 g4 g5 hc0 hxs
        go_wp2_with fail
        refine wp_region_later (by kernel_rfl) (by kernel_rfl) ?_
        repeat (go_big_quiet_step ((go_at_call 41; exact Calls.later_of (hasPrefix_b _ _ _ true HPX.out))))
        refine wpQuiet_nil ?_
        intro w3 hb3
        clear hkd hkm hext
        go_wp2
        go_roundw
        case rel => exact ⟨k + 1, by omega, by go_num, hB.trans (hb3.mono hB.size)⟩
        case measure => simp [intOf]; omega
    · go_wp2
      go_ret
      exact ⟨rfl, HB1.out.trans (hB.mono HB1.out.size)⟩

theorem refused_pos (w : World) (s : ByteArray) (k : Nat) (h : scanT s.data.toList = ([], k, 340)) :
    Calls Try.prog 34 #[.string s, .int .i64 k] w fun e w' => e = .returned (.bool true) ∧ Below w.heap.size w w' := by
  have HR := Lib.hid h
  clear h
  go_enter Try.func34, Try.ntmps34
  go_wp2_with fail
  refine (scan_any s w).mono ?_
  rintro e w1 ⟨v1, he, hts, hb1⟩
  rw [HR.out] at he hts
  subst he
  obtain ⟨pp, cap, rfl⟩ := ownsRow_form hts
  clear hts
  go_wp2
  go_ret
  exact ⟨by simp, hb1⟩
end Go.Proofs.Ytigppjgmfonodaa
