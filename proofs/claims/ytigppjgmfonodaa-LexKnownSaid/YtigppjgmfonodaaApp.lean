/- Appending what came from a slice that is only read (nil too) to a row of the call's own: at a region that draws its order. No program in sight. -/
import Derived.Test.YtigppjgmfonodaaLexT
import Derived.Deep.AppendLies
import Derived.Deep.RegionLaw
namespace Go.Proofs.Ytigppjgmfonodaa
open Go.RowKit

/-- What an append takes: nothing, or cells that lie somewhere. -/
def News (w : World) (x : Value) (m : Nat) (news : List Value) : Prop :=
  (∃ c, x = .slice none 0 c ∧ m = 0 ∧ news = []) ∨ ∃ ad c, x = .slice (some ad) m c ∧ ∀ j u, news[j]? = some u → w.cell? (ad.add j) = some u

section
variable {P : Program} (w : World)
theorem run_append_any (base : Nat) (t ty e : TypeId) (i : TypeInfo) (z : Value) (size bytes : Nat) (ht : P.underlying t = some (.slice e)) (hi : P.info? e = some i) (hz : i.zero = some z)
    (hsize : i.size = size) (hby : i.bytes = bytes) (hzs : z.cells.size = size) (hsz : 0 < size)
    (v : Value) (n : Nat) (xs : List Value) (hown : w.ownsRow base e size v n xs)
    (x : Value) (m : Nat) (news : List Value) (hx : News w x m news) (hl : news.length = m * size) (h1 : ∀ u ∈ news, u.oneCell' = true)
    (h63 : n + m ≤ maxLen) (hbytes : (n + m) * bytes ≤ 140737488355328) (hbase : base ≤ w.heap.size) :
    ∃ v' w', (Builtin.append_ #[t, t] ty #[v, x]).run P w = .ok v' w' ∧ w'.ownsRow base e size v' (n + m) (xs ++ news) ∧ w.grownBy w' v.ownBlock := by
  rcases hx with ⟨c, rfl, rfl, rfl⟩ | ⟨ad, c, rfl, hnews⟩
  · refine ⟨v, w, ?_, by simpa using hown, ⟨rfl, rfl, rfl, Nat.le_refl _, fun _ _ _ => rfl⟩⟩
    rcases hown.2 with ⟨rfl, rfl⟩ | ⟨g, cap, cur, rfl, hbg, hg, hnc, hcm, hcs, htake⟩
    · simp [Builtin.append_, run_underlying ht, sizeOf, typeInfo, hi, Builtin.lenOf, Builtin.firstCells]
    · simp [Builtin.append_, run_underlying ht, sizeOf, typeInfo, hi, Builtin.lenOf, Builtin.firstCells, storeCells, hnc]
  · obtain ⟨v', w', h2, h3, h4, _⟩ := run_append_own (P := P) w base t ty e i z size bytes ht hi hz hsize hby hzs hsz v n xs hown ad m c news hl hnews h1 h63 hbytes hbase
    exact ⟨v', w', h2, h3, h4⟩

theorem step_append_any {ops : Array Oper} {o : Oper} {a : Act} {K : Act → World → Prop} {Q : Exit → Act → World → Prop} {E : Prop} (hgd : o.guard = none) (s x : Operand) (t : TypeId)
    (ho : o.op = .call { callee := .builtin .append, args := #[s, x], argTypes := #[t, t] })
    (base : Nat) (e : TypeId) (i : TypeInfo) (z : Value) (size bytes : Nat) (ht : P.underlying t = some (.slice e)) (hi : P.info? e = some i) (hz : i.zero = some z)
    (hsize : i.size = size) (hby : i.bytes = bytes) (hzs : z.cells.size = size) (hsz : 0 < size)
    (v : Value) (n : Nat) (xs : List Value) (hs : a.eval s = v) (hown : w.ownsRow base e size v n xs)
    (xv : Value) (m : Nat) (news : List Value) (hx : a.eval x = xv) (hnews : News w xv m news) (hl : news.length = m * size) (h1 : ∀ u ∈ news, u.oneCell' = true)
    (h63 : n + m ≤ maxLen) (hbytes : (n + m) * bytes ≤ 140737488355328) (hbase : base ≤ w.heap.size)
    (h : ∀ v' w', w'.ownsRow base e size v' (n + m) (xs ++ news) → w.grownBy w' v.ownBlock → K (a.put o.dst v') w') :
    if Region.wanted o (yielded ops a.tmps) = true then Oper.wp P o a w K Q else E := by
  have hw : Region.wanted o (yielded ops a.tmps) = true := by simp [Region.wanted, hgd]
  rw [if_pos hw]
  obtain ⟨v', w', hr, h2, h3⟩ := run_append_any (P := P) w base t o.type e i z size bytes ht hi hz hsize hby hzs hsz v n xs hown xv m news hnews hl h1 h63 hbytes hbase
  unfold Oper.wp execOp
  simp only [ho, resolve, invoke, builtin, Sem.run_bind, Sem.run_pure, Result.andThen_ok, List.map_toArray, List.map_cons, List.map_nil, hs, hx, hr]
  exact h v' w' h2 h3
theorem wpList_append_any {ops : Array Oper} {rest : List Oper} {o : Oper} {a : Act} {Q : Exit → Act → World → Prop} (hgd : o.guard = none) (s x : Operand) (t : TypeId)
    (ho : o.op = .call { callee := .builtin .append, args := #[s, x], argTypes := #[t, t] })
    (base : Nat) (e : TypeId) (i : TypeInfo) (z : Value) (size bytes : Nat) (ht : P.underlying t = some (.slice e)) (hi : P.info? e = some i) (hz : i.zero = some z)
    (hsize : i.size = size) (hby : i.bytes = bytes) (hzs : z.cells.size = size) (hsz : 0 < size)
    (v : Value) (n : Nat) (xs : List Value) (hs : a.eval s = v) (hown : w.ownsRow base e size v n xs)
    (xv : Value) (m : Nat) (news : List Value) (hx : a.eval x = xv) (hnews : News w xv m news) (hl : news.length = m * size) (h1 : ∀ u ∈ news, u.oneCell' = true)
    (h63 : n + m ≤ maxLen) (hbytes : (n + m) * bytes ≤ 140737488355328) (hbase : base ≤ w.heap.size)
    (h : ∀ v' w', w'.ownsRow base e size v' (n + m) (xs ++ news) → w.grownBy w' v.ownBlock → wpList P ops Q rest (a.put o.dst v') w') : wpList P ops Q (o :: rest) a w :=
  wpList_plain hgd fun _ hK => by
    obtain ⟨v', w', hr, h2, h3⟩ := run_append_any (P := P) w base t o.type e i z size bytes ht hi hz hsize hby hzs hsz v n xs hown xv m news hnews hl h1 h63 hbytes hbase
    unfold Oper.wp execOp
    simp only [ho, resolve, invoke, builtin, Sem.run_bind, Sem.run_pure, Result.andThen_ok, List.map_toArray, List.map_cons, List.map_nil, hs, hx, hr]
    exact hK _ _ (h v' w' h2 h3)
end

theorem zCells_length (l : List ZTok) : (zCells l).length = l.length * 3 := by
  induction l with
  | nil => rfl
  | cons t r ih => simp only [zCells, List.flatMap_cons, List.length_append, List.length_cons] at ih ⊢; rw [ih]; simp [ZTok.cells]; omega
theorem zCells_one (l : List ZTok) : ∀ u ∈ zCells l, u.oneCell' = true := by
  intro u hu
  obtain ⟨t, _, h⟩ := List.mem_flatMap.1 hu
  simp [ZTok.cells] at h
  rcases h with rfl | rfl | rfl <;> rfl
theorem TokS.news {w : World} {v : Value} {l : List ZTok} (h : TokS w v l) : News w v l.length (zCells l) := by
  obtain ⟨p, cap, rfl, h1, _, h2⟩ := h
  by_cases hl : l = []
  · subst hl
    cases p with
    | none => exact .inl ⟨cap, rfl, rfl, rfl⟩
    | some ad => exact .inr ⟨ad, cap, rfl, fun j u hu => by simp [zCells] at hu⟩
  · obtain ⟨b, o, rfl, hc⟩ := h2 hl
    refine .inr ⟨_, cap, rfl, fun j u hu => ?_⟩
    rw [Go.WideShapes.add_plain]
    have hj : j < l.length * 3 := by rw [← zCells_length]; exact (List.getElem?_eq_some_iff.1 hu).1
    obtain ⟨t, ht⟩ : ∃ t, l[j / 3]? = some t := ⟨_, List.getElem?_eq_getElem (by omega)⟩
    obtain ⟨c0, c1, c2⟩ := hc (j / 3) t ht
    obtain ⟨z0, z1, z2⟩ := zCells_at l (j / 3) t ht
    have h3 : j % 3 = 0 ∨ j % 3 = 1 ∨ j % 3 = 2 := by omega
    rcases h3 with h | h | h
    · rw [show j / 3 * 3 = j by omega] at c0 z0
      rw [c0, ← z0, hu]
    · rw [show j / 3 * 3 + 1 = j by omega] at z1
      rw [show o + j / 3 * 3 + 1 = o + j by omega] at c1
      rw [c1, ← z1, hu]
    · rw [show j / 3 * 3 + 2 = j by omega] at z2
      rw [show o + j / 3 * 3 + 2 = o + j by omega] at c2
      rw [c2, ← z2, hu]
theorem News.below {W w : World} {x : Value} {m : Nat} {news : List Value} (h : News W x m news) (hb : Below W.heap.size W w) : News w x m news := by
  rcases h with h | ⟨ad, c, rfl, hc⟩
  · exact .inl h
  · refine .inr ⟨ad, c, rfl, fun j u hu => ?_⟩
    obtain ⟨b, o, s⟩ := ad
    have h1 := hc j u hu
    have hlt : ((⟨b, o, s⟩ : Addr).add j).block < W.heap.size := by
      rcases Nat.lt_or_ge ((⟨b, o, s⟩ : Addr).add j).block W.heap.size with h2 | h2
      · exact h2
      · simp [World.cell?, Array.getElem?_eq_none h2] at h1
    exact (hb.cell hlt).trans h1
/-- The head of a slice, and the rest of it. -/
theorem TokS.take {w : World} {p : Option Addr} {cap k : Nat} {l : List ZTok} (h : TokS w (.slice p l.length cap) l) (hk : k ≤ l.length) : TokS w (.slice p k cap) (l.take k) := by
  obtain ⟨p', cap', he, h1, h1', h2⟩ := h
  cases he
  have e : (l.take k).length = k := by rw [List.length_take]; omega
  refine ⟨p, cap, by rw [e], by omega, h1', fun hl => ?_⟩
  obtain ⟨b, o, rfl, hc⟩ := h2 (by rintro rfl; simp at hl)
  refine ⟨b, o, rfl, fun j t ht => hc j t ?_⟩
  rw [List.getElem?_take] at ht
  split at ht
  · exact ht
  · cases ht
theorem TokS.drop {w : World} {b o cap k : Nat} {l : List ZTok} (h : TokS w (.slice (some ⟨b, o, none⟩) l.length cap) l) (hk : k < l.length) : TokS w (.slice (some ⟨b, o + k * 3, none⟩) (l.length - k) (cap - k)) (l.drop k) := by
  obtain ⟨p', cap', he, h1, h1', h2⟩ := h
  cases he
  have e : (l.drop k).length = l.length - k := by simp
  refine ⟨_, cap - k, by rw [e], by omega, by omega, fun hl => ?_⟩
  obtain ⟨b', o', he, hc⟩ := h2 (by rintro rfl; simp at hl)
  cases he
  refine ⟨b, o + k * 3, rfl, fun j t ht => ?_⟩
  rw [List.getElem?_drop] at ht
  have := hc (k + j) t ht
  rwa [show o + (k + j) * 3 = o + k * 3 + j * 3 by rw [Nat.add_mul]; omega] at this
theorem TokS.drop_any {w : World} {p : Option Addr} {cap K : Nat} {l : List ZTok} (h : TokS w (.slice p l.length cap) l) (hk : K ≤ l.length) :
    News w (.slice (if cap = K then p else Option.map (fun x => x.add (K * 3)) p) (l.length - K) (cap - K)) (l.length - K) (zCells (l.drop K)) := by
  have h' := h
  obtain ⟨p', cap', he, h1, h1', h2⟩ := h'
  cases he
  rcases Nat.lt_or_ge K l.length with hlt | hge
  · obtain ⟨b, o, rfl, hc⟩ := h2 (by rintro rfl; simp at hlt)
    rw [if_neg (by omega), Option.map_some, Go.WideShapes.add_plain]
    have := (h.drop hlt).news
    rwa [List.length_drop] at this
  · have e : l.drop K = [] := List.drop_eq_nil_of_le hge
    have e2 : l.length - K = 0 := by omega
    rw [e, e2]
    cases p with
    | none => exact .inl ⟨cap - K, by split <;> rfl, rfl, rfl⟩
    | some ad =>
      refine .inr ?_
      by_cases hc : cap = K
      · rw [if_pos hc]; exact ⟨_, _, rfl, fun j u hu => by simp [zCells] at hu⟩
      · rw [if_neg hc]; exact ⟨_, _, rfl, fun j u hu => by simp [zCells] at hu⟩
theorem own_empty (w : World) (base : Nat) (t : TypeId) (size : Nat) (hb : base ≤ w.heap.size) : (w.alloc (.cells #[] t)).ownsRow base t size (.slice (some ⟨w.heap.size, 0, none⟩) 0 0) 0 [] :=
  ⟨by simp, .inr ⟨w.heap.size, 0, #[], rfl, hb, heap_alloc_new w _, Nat.le_refl _, by simp [maxLen], by simp, by simp⟩⟩
theorem own_empty1 (w : World) (o : Obj) (base : Nat) (t : TypeId) (size : Nat) (hb : base ≤ w.heap.size + 1) : ((w.alloc o).alloc (.cells #[] t)).ownsRow base t size (.slice (some ⟨w.heap.size + 1, 0, none⟩) 0 0) 0 [] := by
  have h := own_empty (w.alloc o) base t size (by simpa using hb)
  rwa [World.size_alloc] at h
theorem News.one {w : World} (t : ZTok) (e : TypeId) : News (w.alloc (.cells #[.int .i64 t.kind, .string (bytesOf t.text), .int .i64 t.pos] e)) (.slice (some ⟨w.heap.size, 0, none⟩) 1 1) 1 (zCells [t]) :=
  .inr ⟨_, 1, rfl, fun j u hu => cells_new w _ e j u (by simpa [zCells, ZTok.cells] using hu)⟩
theorem news_kept {W W' : World} {b : Nat} {row : Option Nat} {t : ZTok} {e : TypeId} (hg : W.grownBy W' row) (h : W.heap[b]? = some (.cells #[.int .i64 t.kind, .string (bytesOf t.text), .int .i64 t.pos] e (0, 0))) (hne : some b ≠ row) :
    News W' (.slice (some ⟨b, 0, none⟩) 1 1) 1 (zCells [t]) := by
  have hlt : b < W.heap.size := lt_of_blk h
  have h' := (hg.block b hlt hne).trans h
  refine .inr ⟨_, 1, rfl, fun j u hu => ?_⟩
  exact World.news_of_block h' j u (by simpa [zCells, ZTok.cells] using hu)
theorem zown_app {w : World} {base e : Nat} {v : Value} {l m : List ZTok} {k : Nat} (h : w.ownsRow base e 3 v (l.length + k) (zCells l ++ zCells m)) (hk : m.length = k) : w.ownsRow base e 3 v (l ++ m).length (zCells (l ++ m)) := by
  rw [List.length_append, zCells_append, hk]; exact h
end Go.Proofs.Ytigppjgmfonodaa
