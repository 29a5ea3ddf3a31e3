/- How a draft that came in reads, in the walks' words. -/
import Derived.Test.YtigppjgmfonodaaOpen
import Derived.Test.YtigppjgmfonodaaTok
import Derived.OpenShut
import Derived.Lib.SmallJoins
namespace Go.Proofs.Ytigppjgmfonodaa
open Go.RowKit Go.ChangeShapes Go.ChangeAt

theorem bytes_list {w : World} {a : Option Addr} {len cap : Nat} {zs : List Int}
    (h : (a = none ∧ len = 0 ∧ cap = 0 ∧ zs = []) ∨ ∃ x, a = some x ∧ len ≤ cap ∧ cap ≤ maxLen ∧ len ≤ zs.length ∧ (∀ i, i < zs.length → w.cell? (x.add i) = some (.int .u8 (zs.getD i 0))) ∧ ∀ n ∈ zs, (Lit.int .u8 n).wf = true) :
    ∃ ls : List UInt8, ListS u8v w (.slice a len cap) ls := by
  rcases h with ⟨rfl, rfl, rfl, rfl⟩ | ⟨x, rfl, h1, h2, h3, h4, h5⟩
  · exact ⟨[], none, 0, rfl, by simp, by omega, fun h => absurd rfl h⟩
  · have hl : ((zs.take len).map fun z => UInt8.ofNat z.toNat).length = len := by simp; omega
    refine ⟨(zs.take len).map fun z => UInt8.ofNat z.toNat, _, cap, by rw [hl], by rw [hl]; exact h1, by simpa [maxLen] using h2, fun hn => ?_⟩
    have hp : 0 < len := by
      rcases Nat.eq_zero_or_pos len with h0 | h0
      · rw [h0] at hn; simp at hn
      · exact h0
    obtain ⟨b, o, rfl, hc⟩ := ints_at h4 (by omega)
    refine ⟨b, o, rfl, fun j y hy => ?_⟩
    obtain ⟨hj, hy2⟩ := List.getElem?_eq_some_iff.1 hy
    have hj' : j < zs.length := by omega
    obtain ⟨c, hcc⟩ := u8_of (h5 (zs.getD j 0) (by rw [List.getD, List.getElem?_eq_getElem hj']; exact List.getElem_mem hj'))
    have hyc : y = c := by
      rw [← hy2, List.getElem_map, List.getElem_take]
      have : zs[j] = (c.toNat : Int) := by rw [hcc, List.getD, List.getElem?_eq_getElem hj']; rfl
      rw [this]; simp
    rw [hyc]
    show _ = some (Value.int .u8 (c.toNat : Int))
    rw [hcc]; exact hc j hj'

theorem letters_open {H : Type} {enc : TypeId × Value → H} {w : World} {base : Nat} {spare : Nat → Bool} {held : Bool} {fuel : Nat} {v : Value} {x : DataW H × List MemPlace}
    (h : DataW.trod enc Try.prog w base spare held fuel 24 [v] = some x) : ∃ ls : List UInt8, ListS u8v w v ls := by
  rcases open_ints Try.underlying24 Try.underlying5 (by kernel_rfl) h with ⟨hcs, _⟩ | ⟨x, l, c, zs, hcs, _, hl, hm, hz, _, hcell, hwz⟩
  · simp at hcs
    subst hcs
    exact bytes_list (.inl ⟨rfl, rfl, rfl, rfl⟩)
  · simp at hcs
    subst hcs
    exact bytes_list (.inr ⟨_, rfl, hl, hm, by rw [hz]; split <;> omega, hcell, hwz⟩)

/-- The cells of a draft. -/
def draftV (k wh : UInt8) (v : Value) (n : Nat) : Value := .agg #[.int .u8 k.toNat, .int .u8 wh.toNat, v, .int .u32 n]

theorem draft_parts {H : Type} {enc : TypeId × Value → H} {w : World} {base : Nat} {spare : Nat → Bool} {held : Bool} {m : Nat} {v0 v1 v2 v3 : Value} {y0 y1 y2 y3 : DataW H × List MemPlace}
    (g0 : DataW.trod enc Try.prog w base spare held m 5 [v0] = some y0) (g1 : DataW.trod enc Try.prog w base spare held m 5 [v1] = some y1)
    (g2 : DataW.trod enc Try.prog w base spare held m 24 [v2] = some y2) (g3 : DataW.trod enc Try.prog w base spare held m 25 [v3] = some y3) :
    ∃ (k wh : UInt8) (ls : List UInt8) (n : Nat), v0 = .int .u8 k.toNat ∧ v1 = .int .u8 wh.toNat ∧ ListS u8v w v2 ls ∧ v3 = .int .u32 n ∧ n < 4294967296 := by
  obtain ⟨z0, hv0, _, hw0⟩ := DataW.trod_int Try.underlying5 g0
  obtain ⟨z1, hv1, _, hw1⟩ := DataW.trod_int Try.underlying5 g1
  obtain ⟨ls, hls⟩ := letters_open g2
  obtain ⟨z3, hv3, _, hw3⟩ := DataW.trod_int Try.underlying25 g3
  simp at hv0 hv1 hv3
  obtain ⟨k, rfl⟩ := u8_of hw0
  obtain ⟨wh, rfl⟩ := u8_of hw1
  obtain ⟨b1, b2⟩ := bounds_u32 hw3
  exact ⟨k, wh, ls, z3.toNat, hv0, hv1, hls, by rw [hv3]; congr 1; omega, by omega⟩
end Go.Proofs.Ytigppjgmfonodaa
