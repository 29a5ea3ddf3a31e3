/- How a list of drafts that came in reads. -/
import Derived.Test.YtigppjgmfonodaaDrf
import Derived.Test.YtigppjgmfonodaaOpenD
import Derived.Deep.Slices
namespace Go.Proofs.Ytigppjgmfonodaa
open Go.RowKit Go.ChangeShapes Go.ChangeAt Go.Joins

theorem cells5 : Try.prog.cellsOf 5 = 1 := by kernel_rfl
theorem cells24 : Try.prog.cellsOf 24 = 1 := by kernel_rfl
theorem cells25 : Try.prog.cellsOf 25 = 1 := by kernel_rfl
theorem cells27 : Try.prog.cellsOf 27 = 4 := by kernel_rfl

theorem drafts_open {H : Type} {enc : TypeId × Value → H} {w : World} {base : Nat} {spare : Nat → Bool} {held : Bool} {fuel : Nat} {v : Value} {x : DataW H × List MemPlace}
    (h : DataW.trod enc Try.prog w base spare held fuel 44 [v] = some x) : ∃ n, DraftIn w v n := by
  rcases Go.Deep.open_slice Try.underlying44 h with ⟨hcs, _⟩ | ⟨a, len, cap, mm, nn, D, Pl, hcs, _, hl, hm, hmm, _, hel⟩
  · simp at hcs
    subst hcs
    exact ⟨0, none, 0, rfl, Nat.le_refl _, by simp [maxLen], fun h => absurd h (by omega)⟩
  · simp at hcs
    subst hcs
    have hlm : len ≤ mm := by rw [hmm]; split <;> omega
    refine ⟨len, _, cap, rfl, hl, hm, fun hn => ?_⟩
    obtain ⟨b, o, spot⟩ := a
    have hall : ∀ j, j < mm → ∃ cs' : List Value, cs'.length = 4 ∧ (∀ i, i < 4 → w.cell? (((⟨b, o, spot⟩ : Addr).add (j * 4)).add i) = cs'[i]?) ∧ DataW.trod enc Try.prog w base spare held nn 27 cs' = some (D j, Pl j) := by
      intro j hj
      obtain ⟨cs', h1, h2⟩ := hel j hj
      rw [cells27] at h1
      obtain ⟨_, hlen, hc⟩ := World.cells?_some h1
      exact ⟨cs', hlen, hc, h2⟩
    clear hel
    have hsp : spot = none := by
      obtain ⟨cs', hlen, hc, _⟩ := hall 0 (by omega)
      have h2 := hc 0 (by omega)
      rw [List.getElem?_eq_getElem (by omega)] at h2
      simpa [Addr.add] using World.cell?_spot h2
    subst hsp
    refine ⟨b, o, rfl, fun j hj => ?_⟩
    obtain ⟨cs', hlen, hc, h2⟩ := hall j (by omega)
    simp only [Go.WideShapes.add_plain] at hc
    match cs', hlen with
    | [u0, u1, u2, u3], _ =>
      obtain ⟨y0, y1, y2, y3, n, _, _, g0, g1, g2, g3⟩ := trod_struct4 Try.underlying27 h2
      simp [cells5, cells24, cells25] at g0 g1 g2 g3
      obtain ⟨k, wh, ls, m, rfl, rfl, hls, rfl, hm⟩ := draft_parts g0 g1 g2 g3
      have e0 := hc 0 (by omega)
      have e1 := hc 1 (by omega)
      have e2 := hc 2 (by omega)
      have e3 := hc 3 (by omega)
      simp at e0 e1 e2 e3
      exact ⟨k, wh, u2, ls, m, e0, e1, e2, e3, hls, hm⟩
end Go.Proofs.Ytigppjgmfonodaa
