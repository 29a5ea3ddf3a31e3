/- A part of the proofs of some statements of this chapter: texts of these claims, merged. -/
import Derived.Below
import Derived.WalkKit
import Derived.BigQuiet
import Derived.Lib.Hide
import Derived.ControlIn
import Derived.OwnWalkIn
import Derived.Lib.ItoaNum
import Derived.OrdersIn
import Derived.TacticsIn
import Derived.Deep.MidRow
import Derived.OpenShut
import Derived.Lib.SmallJoins
import Derived.Laws.Tables
import Derived.Laws.OwnMore
import Derived.Orders
import Derived.Test.YtiledamgmppcmaaGreatDoorProg
import Derived.Shelf.Abstract
import Derived.Test.YtiledamgmppcmaaGreatDoorRows
import Derived.Carry
import Derived.Lib.LaidU8
import Derived.Lib.LaidTab
import Derived.Lay
import Derived.MakeChecks
import Derived.Laws.Strings
import Derived.WalkSpells
import Derived.WalkLawsBesides
import Derived.Laws.EntriesVeiled
import Derived.Deep.RegionHeld3
import Derived.Deep.QuietTactic
import Derived.Lib.Bytealg
import Derived.Shelf.Strings.Builder1
import Derived.Shelf.Small.Strs
import Derived.Shelf.Small.Wraps
import Derived.Shelf.Strings.BuilderF
import Derived.Shelf.Strings.BuilderK
import Derived.Shelf.Strconv.Atoi
import Derived.Shelf.Strconv.Itoa0
import Derived.Shelf.Strconv.Itoa1
import Derived.Shelf.LaysM
import Derived.Shelf.Strconv.Itoa2
import Derived.Shelf.Strconv.Itoa3
import Derived.Shelf.Strconv.AtoiErrFast
import Derived.Shelf.Strconv.ParseIntEmpty
import Derived.Shelf.Strconv.AtoiFail
import Derived.Shelf.Strconv.Clone
import Derived.Shelf.Strconv.SyntaxError
import Derived.Shelf.LaysC
import Derived.Shelf.Strconv.ToError
import Derived.Shelf.Strconv.AtoiErr
import Derived.Shelf.Strconv.ErrVar
import Derived.Shelf.Strconv.Lower
import Derived.Shelf.Strconv.ParseUint10
import Derived.Shelf.Strconv.ParseUint10Empty
import Derived.Shelf.Strconv.ParseUint10Any
import Derived.Shelf.Strconv.ParseInt10
import Derived.Shelf.Strconv.AtoiLong
import Derived.Shelf.Strconv.AtoiInnerAll
import Derived.Shelf.Strconv.RangeError
import Derived.Shelf.Strconv.ToErrorRange
import Derived.Shelf.Strconv.AtoiAll
import Derived.Shelf.Strconv.ErrVarAll
import Derived.Shelf.Strconv.ParseUintEmpty
import Derived.Shelf.Strconv.ParseUint10b64
import Derived.Shelf.Strconv.ParseUint10b32
import Derived.Shelf.Strconv.ParseUint10b16
import Derived.Shelf.Strconv.ParseUint10b8
import Derived.Shelf.Strconv.ParseUint10At
import Derived.Ground.MpProg
import Derived.Shelf.Pu.ParseUintPublic10
import Derived.Shelf.Pu.ErrVarParseUint
import Derived.Shelf.Strings.Search1
import Derived.Shelf.Strings.Search2
import Derived.Shelf.Strings.Cut
import Derived.Shelf.Strings.Shaped
import Derived.Shelf.Strings.Prefix
import Derived.Deep.DeepCutAuto
import Derived.Lib.IndexBytes
import Derived.Deep.LoopGhost
import Derived.StillTail
import Derived.BigRegion
import Derived.Deep.CutBlock
import Derived.RangeFuncBox
import Derived.RangeFuncLeaves
import Derived.RangeFuncCalls
import Derived.TacticsInMore
import Derived.LoopNIn
import Derived.LoopIn
import Derived.RecoverIn
import Derived.RangeFuncNested
import Derived.Maps.AppendAt
import Derived.Shelf.RegionOpen
import Derived.Laws.StructEq
import Derived.Lib.Join
import Derived.Deep.AppendLies
import Derived.Deep.RegionLaw
import Derived.Laws.Rows
import Derived.RangeFuncOwn
import Derived.Laws.MakeOwn
import Derived.Lib.AppendStr
import Derived.Laws.BytesArg
import Derived.ProofKit
import Derived.Test.YtiledamgmppcmaaGreatDoorZEExprParses1
set_option linter.unusedVariables false
set_option linter.unusedSimpArgs false
set_option linter.unusedSectionVars false
set_option linter.all false
namespace Go.Proofs.YtiledamgmppcmaaGreatDoor
open Go.RowKit
def Rs (f : Nat) (args : List PV) (l : List TkZ) (a : Nat) (r : PRes) : Prop := ∃ x : Ex, (r.bad = false -> x = r.x) /\ An f args (rdS l a false) (.ret (exP x)) (rdS l r.at' r.bad)
theorem Ld {f : Nat} {args : List PV} {l : List TkZ} {a b : Nat} (x : Ex) (h : An f args (rdS l a false) (.ret (exP x)) (rdS l b true)) : Rs f args l a (.no b) := ⟨x, fun h => (by cases h), h⟩
theorem Js {f : Nat} {args : List PV} {l : List TkZ} {a b : Nat} {x : Ex} (h : An f args (rdS l a false) (.ret (exP x)) (rdS l b false)) : Rs f args l a (.yes x b) := ⟨x, fun _ => rfl, h⟩
def fnR (m : Nat) : Nat := if m = 0 then 73 else if m = 3 then 190 else if m = 7 then 191 else 116
def argR (m : Nat) : List PV := if m = 0 \/ m = 3 \/ m = 7 then [.ptr 0 0] else [.ptr 0 0, Ai (lvR m)]
def Af8 (l : List TkZ) (n : Nat) : Prop := ∀ m a, m <= 7 -> m ≠ 4 -> a <= l.length -> 8 * (l.length - a) + A5 m <= n -> Rs (fnR m) (argR m) l a (pE l n m a)
theorem Dl {l : List TkZ} {s : ByteArray} {a : Nat} {e : Bool} (hl : l.length <= 9223372036854775806) (hk : D5 l) (h : Ba l a s = e) : An 115 [.ptr 0 0, By s] (rdS l a false) (.ret (A7 e)) (rdS l (if e = true then a + 1 else a) false) := by
  have g := Qn (s := s) (a := a) (b := false) hl hk
  have h2 : isR l a false s = e := by unfold isR; rw [h]; rfl
  rw [h2] at g; exact g
theorem Zs {l : List TkZ} {s : ByteArray} {a : Nat} (hl : l.length <= 9223372036854775806) (hk : D5 l) : An 115 [.ptr 0 0, By s] (rdS l a true) (.ret (A7 false)) (rdS l a true) := Qn (s := s) (a := a) (b := true) hl hk
theorem Ro {l : List TkZ} {s : ByteArray} {a : Nat} (hl : l.length <= 9223372036854775806) (hk : D5 l) (h : Ba l a s = true) : An 117 [.ptr 0 0, By s] (rdS l a false) (.ret (.tup [])) (rdS l (a + 1) false) := by
  have g := Qm (s := s) (a := a) (b := false) hl hk
  have h2 : isR l a false s = true := by unfold isR; rw [h]; rfl
  rw [if_pos h2] at g; exact g
theorem T0 {l : List TkZ} {s : ByteArray} {a : Nat} (hl : l.length <= 9223372036854775806) (hk : D5 l) (h : Ba l a s = false) : An 117 [.ptr 0 0, By s] (rdS l a false) (.ret (.tup [])) (rdS l a true) := by
  have g := Qm (s := s) (a := a) (b := false) hl hk
  have h2 : ¬ isR l a false s = true := by unfold isR; rw [h]; simp
  rw [if_neg h2] at g; exact g
theorem Nm {l : List TkZ} {s : ByteArray} {a : Nat} (hl : l.length <= 9223372036854775806) (hk : D5 l) : An 117 [.ptr 0 0, By s] (rdS l a true) (.ret (.tup [])) (rdS l a true) := by
  have g := Qm (s := s) (a := a) (b := true) hl hk
  exact g
theorem I3 {l : List TkZ} {a : Nat} : An 118 [.ptr 0 0] (rdS l a true) (.ret (exP .nil)) (rdS l a true) := by
  refine A4 (r' := .agg D4) ?_ (by repeat' (first | exact Ad | refine Aa ?_ ?_ | exact Bo | exact Ab _ | refine A9 ?_ | refine Bh ?_))
  refine Af Tryz.func118 rfl rfl (Nat.le_of_ble_eq_true rfl) rfl (Nat.le_refl _) ?_
  repeat' (first | refine rl0 ?_ | refine rs0 (fun h => ?_) (fun h => ?_) | fail)
  rfl
theorem Qh {l : List TkZ} {a b : Nat} {c : Bool} {x : Ex} (h : An 73 [.ptr 0 0] (rdS l a false) (.ret (exP x)) (rdS l b c)) : An 118 [.ptr 0 0] (rdS l a false) (.ret (exP x)) (rdS l b c) := by
  refine Af Tryz.func118 rfl rfl (Nat.le_of_ble_eq_true rfl) rfl (Nat.le_refl _) ?_
  repeat' (first | refine rl0 ?_ | refine rs0 (fun h => ?_) (fun h => ?_) | fail)
  refine wb1 0 h ?_
  repeat' (first | refine rl0 ?_ | refine rs0 (fun h => ?_) (fun h => ?_) | fail)
  rfl
theorem Yi (op : Int) (x : Ex) : exP (nd op [x]) = .agg [Ai op, Ai 0, By ⟨#[]⟩, .d (.sl 4 [exR x])] := by rw [<- J0]; rfl
theorem Yj (op : Int) (x y : Ex) : exP (nd op [x, y]) = .agg [Ai op, Ai 0, By ⟨#[]⟩, .d (.sl 4 [exR x, exR y])] := by rw [<- J0, <- J0]; rfl
theorem Agu (op : Int) (x y z : Ex) : exP (nd op [x, y, z]) = .agg [Ai op, Ai 0, By ⟨#[]⟩, .d (.sl 4 [exR x, exR y, exR z])] := by rw [<- J0, <- J0, <- J0]; rfl
section
variable {l : List TkZ} {n : Nat} (hl : l.length <= 9223372036854775806) (hk : D5 l) (ih : Af8 l n)
include hl hk ih
theorem Zc {a a1 a2 a3 a4 a5 : Nat} {b1 b2 b3 b4 b5 : Bool} {x y z : Ex} (h : Ba l a kIf = true) (g1 : An 73 [.ptr 0 0] (rdS l (a + 1) false) (.ret (exP x)) (rdS l a1 b1)) (m1 : An 117 [.ptr 0 0, By Kq] (rdS l a1 b1) (.ret (.tup [])) (rdS l a2 b2))
    (g2 : An 118 [.ptr 0 0] (rdS l a2 b2) (.ret (exP y)) (rdS l a3 b3)) (m2 : An 117 [.ptr 0 0, By Kp] (rdS l a3 b3) (.ret (.tup [])) (rdS l a4 b4)) (g3 : An 118 [.ptr 0 0] (rdS l a4 b4) (.ret (exP z)) (rdS l a5 b5)) :
    An 73 [.ptr 0 0] (rdS l a false) (.ret (exP (nd 19 [x, y, z]))) (rdS l a5 b5) := by
  refine Af Tryz.func73 rfl rfl (Nat.le_of_ble_eq_true rfl) rfl (Nat.le_refl _) ?_
  repeat' (first | refine rl0 ?_ | refine rs0 (fun h => ?_) (fun h => ?_) | fail)
  refine wb1 0 (Dl hl hk h) ?_
  repeat' (first | refine rl0 ?_ | refine rs0 (fun h => ?_) (fun h => ?_) | fail)
  refine wb1 0 g1 ?_
  repeat' (first | refine rl0 ?_ | refine rs0 (fun h => ?_) (fun h => ?_) | fail)
  refine wb1 0 m1 ?_
  repeat' (first | refine rl0 ?_ | refine rs0 (fun h => ?_) (fun h => ?_) | fail)
  refine wb1 0 g2 ?_
  repeat' (first | refine rl0 ?_ | refine rs0 (fun h => ?_) (fun h => ?_) | fail)
  refine wb1 0 m2 ?_
  repeat' (first | refine rl0 ?_ | refine rs0 (fun h => ?_) (fun h => ?_) | fail)
  refine wb1 0 g3 ?_
  repeat' (first | refine rl0 ?_ | refine rs0 (fun h => ?_) (fun h => ?_) | fail)
  exact (Agu 19 x y z).symm
theorem Ahj {a : Nat} (ha : a <= l.length) (hn : 8 * (l.length - a) + 8 <= n + 1) : Rs 73 [.ptr 0 0] l a (pE l (n + 1) 0 a) := by
  rw [pE]
  cases h : Ba l a kIf with
  | false =>
    rw [if_neg (by simp)]
    have hc : Rs 116 [.ptr 0 0, Ai (lvR 1)] l a (pE l n 1 a) := ih 1 a (by omega) (by omega) ha (by simp [A5]; omega)
    obtain ⟨x, hx, hd⟩ := hc
    refine ⟨x, hx, ?_⟩
    generalize pE l n 1 a = p at *
    refine Af Tryz.func73 rfl rfl (Nat.le_of_ble_eq_true rfl) rfl (Nat.le_refl _) ?_
    repeat' (first | refine rl0 ?_ | refine rs0 (fun h => ?_) (fun h => ?_) | fail)
    refine wb1 0 (Dl hl hk h) ?_
    repeat' (first | refine rl0 ?_ | refine rs0 (fun h => ?_) (fun h => ?_) | fail)
    refine wb1 0 hd ?_
    repeat' (first | refine rl0 ?_ | refine rs0 (fun h => ?_) (fun h => ?_) | fail)
    rfl
  | true =>
    rw [if_pos rfl]
    have h0 := Bs h
    have g1 : Rs 73 [.ptr 0 0] l (a + 1) (pE l n 0 (a + 1)) := ih 0 (a + 1) (by omega) (by omega) h0 (by simp [A5]; omega)
    have p1 := Gc l n 0 (a + 1)
    have p2 := Dg l n 0 (a + 1) h0
    generalize pE l n 0 (a + 1) = p at g1 p1 p2 |-
    obtain ⟨x, hx, g1⟩ := g1
    cases hb : p.bad with
    | true =>
      rw [Bu hb]
      rw [hb] at g1
      exact Ld _ (Zc hl hk ih h g1 (Nm hl hk) I3 (Nm hl hk) I3)
    | false =>
    rw [Cu hb]
    rw [hb] at g1
    obtain rfl := hx hb
    cases ht : Ba l p.at' Kq with
    | false =>
      rw [E3 ht]
      exact Ld _ (Zc hl hk ih h g1 (T0 hl hk ht) I3 (Nm hl hk) I3)
    | true =>
    rw [E4 ht]
    have h1 := Bs ht
    have g2 : Rs 73 [.ptr 0 0] l (p.at' + 1) (pE l n 0 (p.at' + 1)) := ih 0 (p.at' + 1) (by omega) (by omega) h1 (by simp [A5]; omega)
    have p3 := Gc l n 0 (p.at' + 1)
    have p4 := Dg l n 0 (p.at' + 1) h1
    generalize pE l n 0 (p.at' + 1) = q at g2 p3 p4 |-
    obtain ⟨y, hy, g2⟩ := g2
    cases hc : q.bad with
    | true =>
      rw [Bu hc]
      rw [hc] at g2
      exact Ld _ (Zc hl hk ih h g1 (Ro hl hk ht) (Qh g2) (Nm hl hk) I3)
    | false =>
    rw [Cu hc]
    rw [hc] at g2
    obtain rfl := hy hc
    cases he : Ba l q.at' Kp with
    | false =>
      rw [E3 he]
      exact Ld _ (Zc hl hk ih h g1 (Ro hl hk ht) (Qh g2) (T0 hl hk he) I3)
    | true =>
    rw [E4 he]
    have h2 := Bs he
    have g3 : Rs 73 [.ptr 0 0] l (q.at' + 1) (pE l n 0 (q.at' + 1)) := ih 0 (q.at' + 1) (by omega) (by omega) h2 (by simp [A5]; omega)
    generalize pE l n 0 (q.at' + 1) = r at g3 |-
    obtain ⟨z, hz, g3⟩ := g3
    have g := Zc hl hk ih h g1 (Ro hl hk ht) (Qh g2) (Ro hl hk he) (Qh g3)
    cases hd : r.bad with
    | true =>
      rw [Bu hd]
      rw [hd] at g
      exact Ld _ g
    | false =>
    rw [Cu hd]
    rw [hd] at g
    obtain rfl := hz hd
    exact Js g
theorem Ahl {m a : Nat} (hm : m = 1 \/ m = 2 \/ m = 5 \/ m = 6) (ha : a <= l.length) (hn : 8 * (l.length - a) + A5 (Ao m) <= n) : Rs 155 [.ptr 0 0, Ai (lvR m)] l a (pE l n (Ao m) a) := by
  have h := ih (Ao m) a (by rcases hm with rfl | rfl | rfl | rfl <;> decide) (by rcases hm with rfl | rfl | rfl | rfl <;> decide) ha hn
  obtain ⟨x, hx, hd⟩ := h
  refine ⟨x, hx, ?_⟩
  generalize pE l n (Ao m) a = p at hd |-
  rcases hm with rfl | rfl | rfl | rfl
  all_goals
    refine Af Tryz.func155 rfl rfl (Nat.le_of_ble_eq_true rfl) rfl (Nat.le_refl _) ?_
    repeat' (first | refine rl0 ?_ | refine rs0 (fun h => ?_) (fun h => ?_) | fail)
    refine wb1 0 hd ?_
    repeat' (first | refine rl0 ?_ | refine rs0 (fun h => ?_) (fun h => ?_) | fail)
    rfl
end
end Go.Proofs.YtiledamgmppcmaaGreatDoor
namespace Go.Proofs.YtiledamgmppcmaaGreatDoor
open Go.RowKit
def Agv (l : List TkZ) (m : Nat) (tr : Nat -> Nat -> Ex) : Nat -> Ex -> Nat -> Ex
  | 0, x, _ => x
  | k + 1, x, b => match Bd l b m with
    | none => x
    | some op => if (pE l k (Ao m) (b + 1)).bad = true then nd op [x, tr k (b + 1)] else Agv l m tr k (nd op [x, tr k (b + 1)]) (pE l k (Ao m) (b + 1)).at'
theorem Ym {l : List TkZ} {m n : Nat} {tr : Nat -> Nat -> Ex} (htr : ∀ k b, k <= n -> b <= l.length -> 8 * (l.length - b) + A5 (Ao m) <= k -> (pE l k (Ao m) b).bad = false -> tr k b = (pE l k (Ao m) b).x) (hm : A5 (Ao m) <= 6) :
    ∀ k x b, k <= n -> b <= l.length -> 8 * (l.length - b) + 1 <= k -> (pR l k m x b).bad = false -> Agv l m tr k x b = (pR l k m x b).x
  | 0, x, b, _, _, h, _ => by omega
  | k + 1, x, b, hn, hb, hk, h => by
    rw [pR] at h |-
    rw [Agv]
    cases ho : Bd l b m with
    | none => rfl
    | some op =>
      rw [ho] at h
      simp only at h |-
      have h1 := B0 ho
      cases hy : (pE l k (Ao m) (b + 1)).bad with
      | true => rw [Bu hy] at h; cases h
      | false =>
        rw [Cu hy] at h |-
        rw [if_neg (by simp), htr k (b + 1) (by omega) h1 (by omega) hy]
        have p3 := Gc l k (Ao m) (b + 1)
        have p4 := Dg l k (Ao m) (b + 1) h1
        exact Ym htr hm k _ _ (by omega) p4 (by omega) h
@[reducible] def rcS (l : List TkZ) (i : Ex × Nat × Nat × Bool) : PS := ⟨[[.d (.sl 3 (l.map tkR)), Ai i.2.1, A7 i.2.2.2], D4, (exP i.1).parts], []⟩
theorem An8 (l : List TkZ) (op : Int) (x y : Ex) (b k : Nat) (f : Bool) : rcS l (nd op [x, y], b, k, f) = ⟨[[.d (.sl 3 (l.map tkR)), Ai b, A7 f], D4, [Ai op, Ai 0, By ⟨#[]⟩, .d (.sl 4 [exR x, exR y])]], []⟩ := by
  show PS.mk [_, _, (exP (nd op [x, y])).parts] [] = _
  rw [Yj]; rfl
@[reducible] def rcL (v : Nat) (_ : Ex × Nat × Nat × Bool) : List (Nat × PV) := [(0, .ptr 0 0), (1, Ai v), (4, .ptr 1 0), (5, .ptr 2 0)]
theorem Ahk {l : List TkZ} {n : Nat} (hl : l.length <= 9223372036854775806) (hk : D5 l) (ih : ∀ k, k <= n -> Af8 l k) {m a : Nat} (hm : m = 1 \/ m = 2 \/ m = 5 \/ m = 6) (ha : a <= l.length) (hn : 8 * (l.length - a) + A5 m <= n + 1) : Rs 116 [.ptr 0 0, Ai (lvR m)] l a (pE l (n + 1) m a) := by
  rw [Dz l n m a (by omega) (by omega) (by omega)]
  obtain ⟨r1, r2, r3⟩ := Hd hm
  have hex : ∀ k b, ∃ x : Ex, k <= n -> b <= l.length -> 8 * (l.length - b) + A5 (Ao m) <= k -> ((pE l k (Ao m) b).bad = false -> x = (pE l k (Ao m) b).x) /\ An 155 [.ptr 0 0, Ai (lvR m)] (rdS l b false) (.ret (exP x)) (rdS l (pE l k (Ao m) b).at' (pE l k (Ao m) b).bad) := by
    intro k b
    by_cases h : k <= n /\ b <= l.length /\ 8 * (l.length - b) + A5 (Ao m) <= k
    . obtain ⟨x, h1, h2⟩ := Ahl hl hk (ih k h.1) hm h.2.1 h.2.2
      exact ⟨x, fun _ _ _ => ⟨h1, h2⟩⟩
    . exact ⟨.nil, fun h1 h2 h3 => absurd ⟨h1, h2, h3⟩ h⟩
  let tr : Nat -> Nat -> Ex := fun k b => Classical.choose (hex k b)
  have htr : ∀ k b, k <= n -> b <= l.length -> 8 * (l.length - b) + A5 (Ao m) <= k -> ((pE l k (Ao m) b).bad = false -> tr k b = (pE l k (Ao m) b).x) /\ An 155 [.ptr 0 0, Ai (lvR m)] (rdS l b false) (.ret (exP (tr k b))) (rdS l (pE l k (Ao m) b).at' (pE l k (Ao m) b).bad) := fun k b => Classical.choose_spec (hex k b)
  generalize tr = tr at htr
  obtain ⟨hx, hd⟩ := htr n a (Nat.le_refl _) ha (by omega)
  have p2 := Dg l n (Ao m) a ha
  have p1 := Gc l n (Ao m) a
  generalize tr n a = x0 at hx hd
  generalize pE l n (Ao m) a = p at hx hd p1 p2 |-
  cases hb : p.bad with
  | true =>
    rw [Bu hb]
    rw [hb] at hd
    refine Ld x0 ?_
    have hbin := Ad3 (a := p.at') (b := true) hk hm
    refine Af Tryz.func116 rfl rfl (Nat.le_of_ble_eq_true rfl) rfl (Nat.le_refl _) ?_
    repeat' (first | refine rl0 ?_ | refine rs0 (fun h => ?_) (fun h => ?_) | fail)
    refine wb1 0 hd ?_
    repeat' (first | refine rl0 ?_ | refine rs0 (fun h => ?_) (fun h => ?_) | fail)
    refine Bt (ι := Ex × Nat × Nat × Bool) (ok := fun i => i = (x0, p.at', 0, true)) (L := rcL (lvR m)) (Sx := rcS l) (μ := fun i => 0) (x0, p.at', 0, true) rfl (by repeat (first | exact Ag | refine Ac rfl ?_)) rfl ?_
    rintro i rfl
    repeat' (first | refine rl0 ?_ | refine rs0 (fun h => ?_) (fun h => ?_) | fail)
    refine wb1 0 hbin ?_
    repeat' (first | refine rl0 ?_ | refine rs0 (fun h => ?_) (fun h => ?_) | fail)
    rfl
  | false =>
  rw [Cu hb]
  rw [hb] at hd
  obtain rfl := hx hb
  obtain ⟨R, hR⟩ : ∃ R, pR l n m p.x p.at' = R := ⟨_, rfl⟩
  rw [hR]
  obtain ⟨X, hX⟩ : ∃ X, Agv l m tr n p.x p.at' = X := ⟨_, rfl⟩
  refine ⟨X, fun hr => ?_, ?_⟩
  . rw [<- hX, <- hR]
    exact Ym (fun k b h1 h2 h3 => (htr k b h1 h2 h3).1) r2 n _ _ (Nat.le_refl _) p2 (by omega) (by rw [hR]; exact hr)
  refine Af Tryz.func116 rfl rfl (Nat.le_of_ble_eq_true rfl) rfl (Nat.le_refl _) ?_
  repeat' (first | refine rl0 ?_ | refine rs0 (fun h => ?_) (fun h => ?_) | fail)
  refine wb1 0 hd ?_
  repeat' (first | refine rl0 ?_ | refine rs0 (fun h => ?_) (fun h => ?_) | fail)
  refine F9 (ι := Ex × Nat × Nat × Bool) (ok := fun i => i.2.1 <= l.length /\ i.2.2.1 <= n /\ ((i.2.2.2 = false /\ 8 * (l.length - i.2.1) + 1 <= i.2.2.1 /\ pR l i.2.2.1 m i.1 i.2.1 = R /\ Agv l m tr i.2.2.1 i.1 i.2.1 = X) \/ (i.2.2.2 = true /\ i.1 = X /\ R.bad = true /\ R.at' = i.2.1)))
    (L := rcL (lvR m)) (Sx := rcS l) (μ := fun i => i.2.2.1) (p.x, p.at', n, false) ⟨p2, Nat.le_refl _, .inl ⟨rfl, by show 8 * (l.length - p.at') + 1 <= n; omega, hR, hX⟩⟩ (by repeat (first | exact Ag | refine Ac rfl ?_)) rfl ?_
  rintro ⟨x, b, k, f⟩ ⟨hbl, hkn, hc⟩
  simp only at hbl hkn hc
  have hbin := Ad3 (a := b) (b := f) hk hm
  rcases hc with ⟨rfl, hk1, hx2, hX2⟩ | ⟨rfl, rfl, hr1, hr2⟩
  . obtain ⟨k, rfl⟩ : ∃ j, k = j + 1 := ⟨k - 1, by omega⟩
    rw [pR] at hx2
    rw [Agv] at hX2
    cases ho : Bd l b m with
    | none =>
      rw [ho] at hx2 hX2 hbin
      subst hx2
      obtain rfl : x = X := hX2
      repeat' (first | refine rl0 ?_ | refine rs0 (fun h => ?_) (fun h => ?_) | fail)
      refine wb1 0 hbin ?_
      repeat' (first | refine rl0 ?_ | refine rs0 (fun h => ?_) (fun h => ?_) | fail)
      rfl
    | some op =>
      rw [ho] at hx2 hX2 hbin
      simp only at hx2 hX2
      have h1 := B0 ho
      have hop : ¬ op = 0 := by
        rw [E8 l b (Mf hm)] at ho
        obtain ⟨j, hj, rfl⟩ := Option.map_eq_some_iff.1 ho
        intro e
        have hj0 : j = 0 := by have : ((j : Nat) : Int) = 0 := e; omega
        subst hj0
        have := List.find?_some hj
        simp [Hb, opN, Ok] at this
      obtain ⟨hy, hd2⟩ := htr k (b + 1) (by omega) h1 (by omega)
      have p3 := Gc l k (Ao m) (b + 1)
      have p4 := Dg l k (Ao m) (b + 1) h1
      generalize tr k (b + 1) = y' at hy hd2 hX2
      generalize pE l k (Ao m) (b + 1) = y at hy hd2 hX2 hx2 p3 p4
      simp only [Bool.false_eq_true, if_false, Option.getD_some] at hbin
      repeat' (first | refine rl0 ?_ | refine rs0 (fun h => ?_) (fun h => ?_) | fail)
      refine wb1 0 hbin ?_
      repeat' (first | refine rl0 ?_ | refine rs0 (fun h => ?_) (fun h => ?_) | fail)
      . exfalso; simp at h; exact hop h
      refine wb1 0 hd2 ?_
      repeat' (first | refine rl0 ?_ | refine rs0 (fun h => ?_) (fun h => ?_) | fail)
      refine ⟨(nd op [x, y'], y.at', k, y.bad), ⟨p4, by show k <= n; omega, ?_⟩, Nat.lt_succ_self k, (by repeat (first | exact Ag | refine Ac rfl ?_)), ?_, rfl, rfl, Nat.le_refl _, Nat.le_refl _⟩
      . show (y.bad = false /\ 8 * (l.length - y.at') + 1 <= k /\ pR l k m (nd op [x, y']) y.at' = R /\ Agv l m tr k (nd op [x, y']) y.at' = X) \/ (y.bad = true /\ nd op [x, y'] = X /\ R.bad = true /\ R.at' = y.at')
        cases hyb : y.bad with
        | true =>
          rw [Bu hyb] at hx2
          rw [if_pos hyb] at hX2
          subst hx2
          exact .inr ⟨rfl, hX2, rfl, rfl⟩
        | false =>
          rw [Cu hyb] at hx2
          rw [if_neg (by rw [hyb]; simp)] at hX2
          rw [hy hyb] at hX2 |-
          exact .inl ⟨rfl, by omega, hx2, hX2⟩
      . rw [An8]; rfl
  . cases R
    simp only at hr1 hr2
    subst hr1; subst hr2
    repeat' (first | refine rl0 ?_ | refine rs0 (fun h => ?_) (fun h => ?_) | fail)
    refine wb1 0 hbin ?_
    repeat' (first | refine rl0 ?_ | refine rs0 (fun h => ?_) (fun h => ?_) | fail)
    rfl
end Go.Proofs.YtiledamgmppcmaaGreatDoor
namespace Go.Proofs.YtiledamgmppcmaaGreatDoor
open Go.RowKit
def Akq (i : Nat) : ByteArray := ((Jk 4).getD i (0, ⟨#[]⟩)).2
@[reducible] def relS : List PV := [By ⟨#[61]⟩, By ⟨#[33, 61]⟩, By ⟨#[60]⟩, By ⟨#[60, 61]⟩, By ⟨#[62]⟩, By ⟨#[62, 61]⟩]
@[reducible] def relO : List PV := [Ai 11, Ai 12, Ai 13, Ai 14, Ai 15, Ai 16]
theorem Vl {i : Nat} (h : i < 6) : relS[i]? = some (By (Akq i)) := by
  have : i = 0 \/ i = 1 \/ i = 2 \/ i = 3 \/ i = 4 \/ i = 5 := by omega
  rcases this with rfl | rfl | rfl | rfl | rfl | rfl <;> rfl
theorem Acr {i : Nat} (h : i < 6) : relO[i]? = some (Ai ((11 + i : Nat) : Int)) := by
  have : i = 0 \/ i = 1 \/ i = 2 \/ i = 3 \/ i = 4 \/ i = 5 := by omega
  rcases this with rfl | rfl | rfl | rfl | rfl | rfl <;> rfl
theorem Yn (l : List TkZ) (a : Nat) : Bd l a 4 = ((List.range 6).find? fun i => Ba l a (Akq i)).map fun i => ((11 + i : Nat) : Int) := by
  have e : List.range 6 = [0, 1, 2, 3, 4, 5] := by decide
  rw [e]
  simp only [Bd, Jk, List.find?, Akq, List.getD_cons_zero, List.getD_cons_succ]
  cases Ba l a ⟨#[61]⟩ <;> cases Ba l a ⟨#[33, 61]⟩ <;> cases Ba l a ⟨#[60]⟩ <;> cases Ba l a ⟨#[60, 61]⟩ <;> cases Ba l a ⟨#[62]⟩ <;> cases Ba l a ⟨#[62, 61]⟩ <;> rfl
@[reducible] def ngS (l : List TkZ) (b : Nat) (f : Bool) (x : Ex) : PS := ⟨[[.d (.sl 3 (l.map tkR)), Ai b, A7 f], D4, (exP x).parts, relS, relO], []⟩
@[reducible] def ngL (i : Nat) : List (Nat × PV) := [(0, .ptr 0 0), (2, .ptr 1 0), (3, .ptr 2 0), (4, .ptr 3 0), (5, .ptr 4 0), (6, Ai i)]
set_option maxHeartbeats 2000000 in
theorem Aoe {l : List TkZ} {n : Nat} (hl : l.length <= 9223372036854775806) (hk : D5 l) (ih : Af8 l n) {a : Nat} (ha : a <= l.length) (hn : 8 * (l.length - a) + 5 <= n + 1) : Rs 190 [.ptr 0 0] l a (pE l (n + 1) 3 a) := by
  rw [pE]
  cases h : Ba l a Ab6 with
  | true =>
    rw [if_pos rfl]
    have h0 := Bs h
    have g1 : Rs 190 [.ptr 0 0] l (a + 1) (pE l n 3 (a + 1)) := ih 3 (a + 1) (by omega) (by omega) h0 (by simp [A5]; omega)
    obtain ⟨x, hx, hd⟩ := g1
    generalize pE l n 3 (a + 1) = p at hx hd |-
    have g : An 190 [.ptr 0 0] (rdS l a false) (.ret (exP (nd 6 [x]))) (rdS l p.at' p.bad) := by
      refine Af Tryz.func190 rfl rfl (Nat.le_of_ble_eq_true rfl) rfl (Nat.le_refl _) ?_
      repeat' (first | refine rl0 ?_ | refine rs0 (fun h => ?_) (fun h => ?_) | fail)
      refine wb1 0 (Dl hl hk h) ?_
      repeat' (first | refine rl0 ?_ | refine rs0 (fun h => ?_) (fun h => ?_) | fail)
      refine wb1 0 hd ?_
      repeat' (first | refine rl0 ?_ | refine rs0 (fun h => ?_) (fun h => ?_) | fail)
      exact (Yi 6 x).symm
    cases hb : p.bad with
    | true => rw [Bu hb]; rw [hb] at g; exact Ld _ g
    | false => rw [Cu hb]; rw [hb] at g; obtain rfl := hx hb; exact Js g
  | false =>
    rw [if_neg (by simp)]
    have g1 : Rs 116 [.ptr 0 0, Ai (lvR 5)] l a (pE l n 5 a) := ih 5 a (by omega) (by omega) ha (by simp [A5]; omega)
    have p1 := Gc l n 5 a
    have p2 := Dg l n 5 a ha
    obtain ⟨x, hx, hd⟩ := g1
    generalize pE l n 5 a = p at hx hd p1 p2 |-
    have none6 : ∀ f, p.bad = f -> (f = true \/ ∀ i, i < 6 -> Ba l p.at' (Akq i) = false) -> An 190 [.ptr 0 0] (rdS l a false) (.ret (exP x)) (rdS l p.at' f) := by
      intro f hf hno
      rw [hf] at hd
      have ht : ∀ i, i < 6 -> An 115 [.ptr 0 0, By (Akq i)] (rdS l p.at' f) (.ret (A7 false)) (rdS l p.at' f) := fun i hi => by
        rcases hno with rfl | hno
        . exact Zs hl hk
        . cases f with
          | true => exact Zs hl hk
          | false => exact Dl hl hk (hno i hi)
      refine Af Tryz.func190 rfl rfl (Nat.le_of_ble_eq_true rfl) rfl (Nat.le_refl _) ?_
      repeat' (first | refine rl0 ?_ | refine rs0 (fun h => ?_) (fun h => ?_) | fail)
      refine wb1 0 (Dl hl hk h) ?_
      repeat' (first | refine rl0 ?_ | refine rs0 (fun h => ?_) (fun h => ?_) | fail)
      refine wb1 0 hd ?_
      repeat' (first | refine rl0 ?_ | refine rs0 (fun h => ?_) (fun h => ?_) | fail)
      refine Bt (ι := Nat) (ok := fun i => i <= 6) (L := ngL) (Sx := fun _ => ngS l p.at' f x) (μ := fun i => 6 - i) 0 (Nat.zero_le _) (by exact (by repeat (first | exact Ag | refine Ac rfl ?_))) rfl ?_
      intro i hi
      repeat' (first | refine rl0 ?_ | refine rs0 (fun h => ?_) (fun h => ?_) | fail)
      . have hi6 : i < 6 := by simp at h; omega
        refine wst rfl rfl ⟨by omega, by show (i : Int) < 6; omega⟩ ?_
        refine wsld (id := 3) i rfl rfl rfl (by show PV.ptr 3 (0 + ((i : Nat) : Int).toNat * 1) = _; simp) rfl (Vl hi6) ?_
        refine wb1 0 (ht i hi6) ?_
        repeat' (first | refine rl0 ?_ | refine rs0 (fun h => ?_) (fun h => ?_) | fail)
        exact ⟨i + 1, by omega, by omega, (by repeat (first | exact Ag | refine Ac rfl ?_)), rfl⟩
      . rfl
    cases hb : p.bad with
    | true =>
      rw [Bu hb]
      exact Ld _ (none6 true hb (.inl rfl))
    | false =>
    rw [Cu hb]
    obtain rfl := hx hb
    cases ho : Bd l p.at' 4 with
    | none =>
      rw [Yn, Option.map_eq_none_iff, List.find?_eq_none] at ho
      exact Js (none6 false hb (.inr fun i hi => by simpa using ho i (List.mem_range.2 hi)))
    | some op =>
      have h1 := B0 ho
      rw [Yn] at ho
      obtain ⟨j, hj, rfl⟩ := Option.map_eq_some_iff.1 ho
      rw [List.find?_range_eq_some] at hj
      obtain ⟨hj1, hj2, hj3⟩ := hj
      have hj2 : j < 6 := by simpa using hj2
      have hno : ∀ i, i < j -> Ba l p.at' (Akq i) = false := fun i hi => by simpa using hj3 i hi
      have g2 : Rs 116 [.ptr 0 0, Ai (lvR 5)] l (p.at' + 1) (pE l n 5 (p.at' + 1)) := ih 5 (p.at' + 1) (by omega) (by omega) h1 (by simp [A5]; omega)
      show Rs _ _ l a ((pE l n 5 (p.at' + 1)).go fun y c => .yes (nd ((11 + j : Nat) : Int) [p.x, y]) c)
      obtain ⟨y, hy, hd2⟩ := g2
      generalize pE l n 5 (p.at' + 1) = q at hy hd2 |-
      rw [hb] at hd
      have g : An 190 [.ptr 0 0] (rdS l a false) (.ret (exP (nd ((11 + j : Nat) : Int) [p.x, y]))) (rdS l q.at' q.bad) := by
        refine Af Tryz.func190 rfl rfl (Nat.le_of_ble_eq_true rfl) rfl (Nat.le_refl _) ?_
        repeat' (first | refine rl0 ?_ | refine rs0 (fun h => ?_) (fun h => ?_) | fail)
        refine wb1 0 (Dl hl hk h) ?_
        repeat' (first | refine rl0 ?_ | refine rs0 (fun h => ?_) (fun h => ?_) | fail)
        refine wb1 0 hd ?_
        repeat' (first | refine rl0 ?_ | refine rs0 (fun h => ?_) (fun h => ?_) | fail)
        refine Bt (ι := Nat) (ok := fun i => i <= j) (L := ngL) (Sx := fun _ => ngS l p.at' false p.x) (μ := fun i => j - i) 0 (Nat.zero_le _) (by exact (by repeat (first | exact Ag | refine Ac rfl ?_))) rfl ?_
        intro i hi
        repeat' (first | refine rl0 ?_ | refine rs0 (fun h => ?_) (fun h => ?_) | fail)
        . have hi6 : i < 6 := by simp at h; omega
          refine wst rfl rfl ⟨by omega, by show (i : Int) < 6; omega⟩ ?_
          refine wsld (id := 3) i rfl rfl rfl (by show PV.ptr 3 (0 + ((i : Nat) : Int).toNat * 1) = _; simp) rfl (Vl hi6) ?_
          by_cases hij : i < j
          . refine wb1 0 (Dl hl hk (hno i hij)) ?_
            repeat' (first | refine rl0 ?_ | refine rs0 (fun h => ?_) (fun h => ?_) | fail)
            exact ⟨i + 1, by omega, by omega, (by repeat (first | exact Ag | refine Ac rfl ?_)), rfl⟩
          . obtain rfl : i = j := by omega
            refine wb1 0 (Dl hl hk hj1) ?_
            repeat' (first | refine rl2 ?_ | refine rs2 (fun h => ?_) (fun h => ?_) | fail)
            refine b0 (fun k => Nat.beq k 5 || Nat.beq k 8) [(2, [4]), (3, [2])] ?_
            repeat' (first | refine rl7 ?_ | refine rs7 (fun h => ?_) (fun h => ?_) | fail)
            refine b3 ?_ (hC := by exact ⟨by omega, by show (i : Int) < 6; omega⟩)
            refine b5 (p := Ai ((11 + i : Nat) : Int)) ?_ (hpp := by show relO[0 + ((i : Nat) : Int).toNat * 1]? = _; rw [show 0 + ((i : Nat) : Int).toNat * 1 = i by simp]; exact Acr hi6)
            repeat' (first | refine rl7 ?_ | refine rs7 (fun h => ?_) (fun h => ?_) | fail)
            refine Z3 0 hd2 ?_
            repeat' (first | refine rl7 ?_ | refine rs7 (fun h => ?_) (fun h => ?_) | fail)
            repeat' (first | refine rl0 ?_ | refine rs0 (fun h => ?_) (fun h => ?_) | fail)
            exact (Yj ((11 + i : Nat) : Int) p.x y).symm
        . exfalso; simp at h; omega
      cases hqb : q.bad with
      | true => rw [Bu hqb]; rw [hqb] at g; exact Ld _ g
      | false => rw [Cu hqb]; rw [hqb] at g; obtain rfl := hy hqb; exact Js g
end Go.Proofs.YtiledamgmppcmaaGreatDoor
namespace Go.Proofs.YtiledamgmppcmaaGreatDoor
open Go.RowKit
theorem Vi {l : List TkZ} (hl : l.length <= 9223372036854775806) (hnum : P5 l) : ∀ n, Q6 l n := by
  intro n
  induction n using Nat.strongRecOn with
  | ind n ih =>
    intro m a hm h4 ha hn
    cases n with
    | zero =>
      exfalso
      have : 2 <= A5 m := by unfold A5; split <;> omega
      omega
    | succ n =>
      have ihn := ih n (Nat.lt_succ_self n)
      have hc : m = 0 \/ m = 3 \/ m = 7 \/ m = 1 \/ m = 2 \/ m = 5 \/ m = 6 := by omega
      rcases hc with rfl | rfl | rfl | hm
      . exact Ql hl ihn ha hn
      . exact Vj hl ihn ha hn
      . exact K9 hl hnum ihn ha hn
      . have h := M2 hl (fun k hk => ih k (by omega)) hm ha hn
        have e1 : fnM m = 112 := by rcases hm with rfl | rfl | rfl | rfl <;> rfl
        have e2 : Aia m = [.ptr 0 0, Ai m] := by rcases hm with rfl | rfl | rfl | rfl <;> rfl
        rw [e1, e2]; exact h
theorem K7 {rows : List (List DV)} {a : Int} (h0 : a < 0 \/ (rows.length : Int) < a) : An 29 [.d (.sl 3 rows), Ai a] ⟨[], []⟩ (.ret (.tup [exP .nil, Ai 0, Ai 2])) ⟨[], []⟩ := by
  refine A4 (r' := .tup [.agg D4, Ai 0, Ai 2]) ?_ (by repeat' (first | exact Ad | refine Aa ?_ ?_ | exact Bo | exact Ab _ | refine A9 ?_ | refine Bh ?_))
  refine ⟨enters_of Tryz.func29 rfl rfl, Dm H5 Tryz.func29 rfl (Nat.le_of_ble_eq_true rfl) rfl (Nat.le_refl _) ?_⟩
  refine Av (Bv ?_)
  repeat' (first | refine rl0 ?_ | refine rs0 (fun h => ?_) (fun h => ?_) | fail)
  refine Av (Bv ?_)
  repeat' (first | refine rl0 ?_ | refine rs0 (fun h => ?_) (fun h => ?_) | fail)
  . exact ⟨none, .inl ⟨rfl, .inr rfl⟩, _, rfl, rfl, rfl, .inr rfl, _, B6 rfl, rfl, rfl⟩
  . exact ⟨none, .inl ⟨rfl, .inr rfl⟩, _, rfl, rfl, rfl, .inr rfl, _, B6 rfl, rfl, rfl⟩
  . exfalso; simp_all; omega
theorem K8 {rows : List (List DV)} {a i : Int} (h0 : 0 <= a /\ a <= rows.length) (hi : 0 <= i) (hidx : An 67 [.d (.sl 3 rows), .fn 68 []] ⟨[], []⟩ (.ret (Ai i)) ⟨[], []⟩) : An 29 [.d (.sl 3 rows), Ai a] ⟨[], []⟩ (.ret (.tup [exP .nil, Ai i, Ai 350])) ⟨[], []⟩ := by
  refine A4 (r' := .tup [.agg D4, Ai i, Ai 350]) ?_ (by repeat' (first | exact Ad | refine Aa ?_ ?_ | exact Bo | exact Ab _ | refine A9 ?_ | refine Bh ?_))
  refine ⟨enters_of Tryz.func29 rfl rfl, Dm H5 Tryz.func29 rfl (Nat.le_of_ble_eq_true rfl) rfl (Nat.le_refl _) ?_⟩
  refine Av (Bv ?_)
  repeat' (first | refine rl0 ?_ | refine rs0 (fun h => ?_) (fun h => ?_) | fail)
  refine Av (Bv ?_)
  repeat' (first | refine rl0 ?_ | refine rs0 (fun h => ?_) (fun h => ?_) | fail)
  . exfalso; simp at h; omega
  . exfalso; simp at h; omega
  refine Av (Bv ?_)
  repeat' (first | refine rl0 ?_ | refine rs0 (fun h => ?_) (fun h => ?_) | fail)
  refine D3 hidx rfl rfl rfl rfl rfl (by repeat (first | exact Ad | refine Aa (Ab _) ?_)) ?_
  repeat' (first | refine rl0 ?_ | refine rs0 (fun h => ?_) (fun h => ?_) | fail)
  . exact ⟨none, .inl ⟨rfl, .inr rfl⟩, _, rfl, rfl, rfl, .inr rfl, _, B6 rfl, rfl, rfl⟩
  . exfalso; simp at h; omega
theorem I5 {rows : List (List DV)} {a n : Int} {x : Ex} (h0 : 0 <= a /\ a <= rows.length) (hidx : An 67 [.d (.sl 3 rows), .fn 68 []] ⟨[], []⟩ (.ret (Ai (-1))) ⟨[], []⟩)
    (hx : An 71 [.ptr 0 0] (paK rows a) (.ret (exP x)) (paK rows n)) (hs : x.small) (hc : Bg x ≠ 0) : An 29 [.d (.sl 3 rows), Ai a] ⟨[], []⟩ (.ret (.tup [exP .nil, Ai a, Ai 3])) ⟨[], []⟩ := by
  have hchk := F7 x hs
  refine A4 (r' := .tup [.agg D4, Ai a, Ai 3]) ?_ (by repeat' (first | exact Ad | refine Aa ?_ ?_ | exact Bo | exact Ab _ | refine A9 ?_ | refine Bh ?_))
  refine ⟨enters_of Tryz.func29 rfl rfl, Dm H5 Tryz.func29 rfl (Nat.le_of_ble_eq_true rfl) rfl (Nat.le_refl _) ?_⟩
  refine Av (Bv ?_)
  repeat' (first | refine rl0 ?_ | refine rs0 (fun h => ?_) (fun h => ?_) | fail)
  refine Av (Bv ?_)
  repeat' (first | refine rl0 ?_ | refine rs0 (fun h => ?_) (fun h => ?_) | fail)
  . exfalso; simp at h; omega
  . exfalso; simp at h; omega
  refine Av (Bv ?_)
  repeat' (first | refine rl0 ?_ | refine rs0 (fun h => ?_) (fun h => ?_) | fail)
  refine D3 hidx rfl rfl rfl rfl rfl (by repeat (first | exact Ad | refine Aa (Ab _) ?_)) ?_
  repeat' (first | refine rl0 ?_ | refine rs0 (fun h => ?_) (fun h => ?_) | fail)
  refine Av (Bv ?_)
  repeat' (first | refine rl0 ?_ | refine rs0 (fun h => ?_) (fun h => ?_) | fail)
  refine Av (L7 rfl rfl rfl rfl rfl rfl (by decide) ?_)
  refine Av (Bv ?_)
  repeat' (first | refine rl0 ?_ | refine rs0 (fun h => ?_) (fun h => ?_) | fail)
  refine wcb (id := 3) hx rfl rfl rfl rfl rfl rfl rfl rfl (by repeat (first | exact Ad | refine Aa (Ab _) ?_)) rfl ?_
  repeat' (first | refine rl0 ?_ | refine rs0 (fun h => ?_) (fun h => ?_) | fail)
  refine Av (Bv ?_)
  repeat' (first | refine rl0 ?_ | refine rs0 (fun h => ?_) (fun h => ?_) | fail)
  refine D3 hchk rfl rfl rfl rfl rfl (by repeat (first | exact Ad | refine Aa (Ab _) ?_)) ?_
  repeat' (first | refine rl0 ?_ | refine rs0 (fun h => ?_) (fun h => ?_) | fail)
  . exact ⟨none, .inl ⟨rfl, .inr rfl⟩, ⟨_, Tryz.func70, rfl, rfl⟩, _, Pq _ _ _ _ (.v (.bool true)) _ _ _ _, _, rfl, rfl, rfl, .inr rfl, _, B6 rfl, rfl, rfl⟩
  . exfalso; simp at h; omega
def De (l : List TkZ) (a : Int) : Ex × Int × Int :=
  if a < 0 \/ (l.length : Int) < a then (.nil, 0, 2)
  else if Fr l ≠ -1 then (.nil, Fr l, 350)
  else let p := D1 l a.toNat
    if p.bad = true then (.nil, p.at', 350) else if Bg p.x = 0 then (p.x, p.at', 0) else (.nil, a, 3)
end Go.Proofs.YtiledamgmppcmaaGreatDoor
namespace Go.Proofs.YtiledamgmppcmaaGreatDoor
open Go.RowKit
theorem Cb {op : Int} {l : List Ex} (h : Ih l) : (nd op l).small := ⟨Nat.zero_le _, h⟩
theorem Bk {p : PRes} {f : Ex -> Nat -> PRes} (h : p.x.small) (hf : ∀ x b, x.small -> (f x b).x.small) : (p.go f).x.small := by
  unfold PRes.go
  split
  . exact ⟨Nat.zero_le _, trivial⟩
  . exact hf _ _ h
theorem Di {l : List TkZ} {a : Nat} {s : ByteArray} {f : Nat -> PRes} (hf : ∀ b, (f b).x.small) : (Ct l a s f).x.small := by
  unfold Ct
  split
  . exact hf _
  . exact ⟨Nat.zero_le _, trivial⟩
theorem Da : Ex.nil.small := ⟨Nat.zero_le _, trivial⟩
theorem G1 {l : List TkZ} (hs : ∀ t ∈ l, t.2.1.size <= 9223372036854775807) : ∀ n, (∀ m a, (pE l n m a).x.small) /\ ∀ m x a, x.small -> (pR l n m x a).x.small
  | 0 => ⟨fun m a => by rw [pE]; exact Da, fun m x a _ => by rw [pR]; exact Da⟩
  | n + 1 => by
    obtain ⟨h1, h2⟩ := G1 hs n
    refine ⟨fun m a => ?_, fun m x a hx => ?_⟩
    . by_cases e0 : m = 0
      . subst e0
        rw [pE]
        split
        . exact Bk (h1 _ _) fun x b hx => Di fun b => Bk (h1 _ _) fun y c hy => Di fun c => Bk (h1 _ _) fun z d hz => Cb ⟨hx, hy, hz, trivial⟩
        . exact h1 _ _
      by_cases e3 : m = 3
      . subst e3
        rw [pE]
        split
        . exact Bk (h1 _ _) fun x b hx => Cb ⟨hx, trivial⟩
        . refine Bk (h1 _ _) fun x b hx => ?_
          split
          . exact Bk (h1 _ _) fun y c hy => Cb ⟨hx, hy, trivial⟩
          . exact hx
      by_cases e7 : m = 7
      . subst e7
        rw [pE]
        split
        . exact Bk (h1 _ _) fun x b hx => Cb ⟨hx, trivial⟩
        split
        . exact Cb trivial
        split
        . exact Cb trivial
        split
        . exact Bk (h1 _ _) fun x b hx => Di fun c => hx
        unfold Jm
        split
        . exact Da
        . rename_i t ht
          have := hs t (List.mem_of_getElem? ht)
          unfold Gf
          split
          . exact ⟨this, trivial⟩
          . split
            . exact ⟨Nat.zero_le _, trivial⟩
            . exact Da
      rw [Dz l n m a e0 e3 e7]
      exact Bk (h1 _ _) fun x b hx => h2 _ _ _ hx
    . rw [pR]
      split
      . exact hx
      . exact Bk (h1 _ _) fun y c hy => h2 _ _ _ (Cb ⟨hx, hy, trivial⟩)
theorem Eg {b : UInt8} (h : Bi b = true) : 48 <= b.toNat /\ b.toNat <= 57 := by
  simp only [Bi, Bool.and_eq_true, decide_eq_true_eq] at h
  omega
def O3 (acc : Nat) (l : List UInt8) : Nat := l.foldl (fun n b => n * 10 + (b.toNat - 48)) acc
theorem Kh : ∀ (l : List UInt8) (acc : Nat), l.all Bi = true -> Lib.decFrom acc l = some (O3 acc l)
  | [], acc, _ => rfl
  | b :: r, acc, h => by
    simp only [List.all_cons, Bool.and_eq_true] at h
    obtain ⟨h1, h2⟩ := Eg h.1
    rw [Lib.decFrom, Lib.digitVal, if_pos ⟨h1, h2⟩]
    simp only []
    rw [Kh r _ h.2]; rfl
theorem D7 {l : List UInt8} (h : Bl l = true) : l.length <= 4 /\ l.all Bi = true /\ Lib.atoi l = some ((O3 0 l : Nat) : Int) := by
  simp only [Bl, Bool.and_eq_true, Bool.or_eq_true] at h
  obtain ⟨h1, h2⟩ := h
  have hl : l.length <= 4 /\ l ≠ [] := by
    rcases h2 with h2 | h2
    . have : l = [48] := by simpa using h2
      subst this; simp
    . simp only [decide_eq_true_eq, Bool.not_eq_true'] at h2
      refine ⟨h2.2, fun e => ?_⟩
      subst e; simp at h2
  refine ⟨hl.1, h1, ?_⟩
  cases l with
  | nil => exact absurd rfl hl.2
  | cons b r =>
    have h3 := h1
    simp only [List.all_cons, Bool.and_eq_true] at h3
    obtain ⟨h4, h5⟩ := Eg h3.1
    have e1 : (b == 45) = false := by rw [beq_eq_false_iff_ne]; rintro rfl; simp at h4
    have e2 : (b == 43) = false := by rw [beq_eq_false_iff_ne]; rintro rfl; simp at h4
    simp only [Lib.atoi, e1, e2, Bool.false_eq_true, if_false]
    unfold Lib.decNat
    rw [Kh _ _ h1]; rfl
theorem Ff {l : List TkZ} (h : Fr l = -1) : ∀ t ∈ l, B5 t.1 t.2.1.data.toList t.2.2 = 0 := by
  unfold Fr at h
  cases e : l.findIdx? Xg with
  | some i => rw [e] at h; simp at h
  | none =>
    rw [List.findIdx?_eq_none_iff] at e
    intro t ht
    have := e t ht
    unfold Xg at this
    simpa using this
theorem Iq (l : List TkZ) : Fr l = -1 \/ 0 <= Fr l := by
  unfold Fr
  cases l.findIdx? Xg with
  | none => exact .inl rfl
  | some i => exact .inr (by simp)
theorem Vd {l : List TkZ} (h : Fr l = -1) : P5 l := fun t ht h3 => by
  have h1 := Ff h t ht
  have h2 : Bl t.2.1.data.toList = true := by
    unfold B5 at h1
    split at h1
    . cases h1
    . rename_i hn
      have : Ay t.1 t.2.1.data.toList = true := by
        cases hb : Ay t.1 t.2.1.data.toList with
        | true => rfl
        | false => exact absurd (.inr (.inr hb)) hn
      rw [Ep, if_neg (by omega), if_neg (by omega), if_pos h3] at this
      exact this
  obtain ⟨a1, a2, a3⟩ := D7 h2
  have e : t.2.1.data.toList.length = t.2.1.size := by simp
  exact ⟨by omega, _, a3⟩
theorem M1 (l : List TkZ) (a : Int) (hl : l.length <= 9223372036854775806) (hs : ∀ t ∈ l, t.2.1.size <= 9223372036854775807) : An 29 [Ll l, Ai a] ⟨[], []⟩ (.ret (.tup [exP (De l a).1, Ai (De l a).2.1, Ai (De l a).2.2])) ⟨[], []⟩ := by
  have hlen : (l.map tkR).length = l.length := by simp
  unfold De
  by_cases h0 : a < 0 \/ (l.length : Int) < a
  . rw [if_pos h0]
    exact K7 (by rw [hlen]; exact h0)
  rw [if_neg h0]
  have h0' : 0 <= a /\ a <= (l.map tkR).length := by rw [hlen]; omega
  have hi := Yr l hs
  by_cases h1 : Fr l ≠ -1
  . rw [if_pos h1]
    exact K8 h0' ((Iq l).resolve_left h1) hi
  rw [if_neg h1]
  have h1' : Fr l = -1 := by omega
  rw [h1'] at hi
  obtain ⟨k, rfl⟩ := Int.eq_ofNat_of_zero_le h0'.1
  have hk : k <= l.length := by omega
  have g : Gs 71 [.ptr 0 0] l k (D1 l k) := Vi hl (Vd h1') _ 0 k (by omega) (by omega) hk (by simp [A5])
  have hsm : (D1 l k).x.small := (G1 hs _).1 _ _
  simp only [Int.toNat_natCast]
  cases hb : (D1 l k).bad with
  | true =>
    rw [if_pos rfl]
    exact Pp h0' hi (g.no hb)
  | false =>
    rw [if_neg (by simp)]
    have g := g.ok hb
    by_cases hc : Bg (D1 l k).x = 0
    . rw [if_pos hc]
      exact S9 h0' hi g hsm hc
    . rw [if_neg hc]
      exact I5 h0' hi g hsm hc
end Go.Proofs.YtiledamgmppcmaaGreatDoor
namespace Go.Proofs.YtiledamgmppcmaaGreatDoor
open Go.RowKit
theorem Ko {l : List TkZ} {a : Nat} {s : ByteArray} {t : TkZ} (ht : l[a]? = some t) (h : t.1 = 1 \/ t.1 = 3) : Ba l a s = false := by
  rw [G9 ht]
  rcases h with h | h <;> simp [h]
theorem Pg {l : List TkZ} {a : Nat} {s s' : ByteArray} (h : Ba l a s = true) (hne : s ≠ s') : Ba l a s' = false := by
  obtain ⟨t, ht⟩ : ∃ t, l[a]? = some t := ⟨_, List.getElem?_eq_getElem (Bs h)⟩
  rw [G9 ht] at h |-
  simp only [Bool.and_eq_true, decide_eq_true_eq] at h
  rw [h.1, decide_eq_false hne]; rfl
theorem Ag4 {l : List UInt8} {s : ByteArray} (hs : s.data.toList = l) (h : Bl l = true) : Lv s = (O3 0 l : Nat) := by
  unfold Lv; rw [hs, (D7 h).2.2]; rfl
theorem Yw : ∀ (l : List UInt8) (acc : Nat), l.all Bi = true -> O3 acc l < (acc + 1) * 10 ^ l.length
  | [], acc, _ => by simp [O3]
  | b :: r, acc, h => by
    simp only [List.all_cons, Bool.and_eq_true] at h
    obtain ⟨h1, h2⟩ := Eg h.1
    have h3 := Yw r (acc * 10 + (b.toNat - 48)) h.2
    have e : O3 acc (b :: r) = O3 (acc * 10 + (b.toNat - 48)) r := rfl
    rw [e, List.length_cons, Nat.pow_succ]
    refine Nat.lt_of_lt_of_le h3 ?_
    rw [Nat.mul_comm (10 ^ r.length) 10, <- Nat.mul_assoc]
    exact Nat.mul_le_mul_right _ (by omega)
theorem Yx {l : List UInt8} {i : Nat} (h : i < l.length) : O3 0 (l.take (i + 1)) = O3 0 (l.take i) * 10 + (l[i].toNat - 48) := by
  rw [List.take_succ_eq_append_getElem h]
  unfold O3
  rw [List.foldl_append]; rfl
def NumR (l : List TkZ) : Prop := ∀ t ∈ l, t.1 = 3 -> Bl t.2.1.data.toList = true
@[reducible] def rnS (l : List TkZ) (a : Nat) (t : TkZ) : PS := ⟨[[.d (.sl 3 (l.map tkR)), Ai a, A7 false], D4, [Ai t.1, By t.2.1, Ai t.2.2]], []⟩
theorem Zd {l : List TkZ} {a : Nat} {t : TkZ} (hl : l.length <= 9223372036854775806) (ht : l[a]? = some t) (h3 : t.1 = 3) (hnum : Bl t.2.1.data.toList = true) : An 191 [.ptr 0 0] (rdS l a false) (.ret (exP (.mk 1 (Lv t.2.1) ⟨#[]⟩ []))) (rdS l (a + 1) false) := by
  have hlt : a < l.length := (List.getElem?_eq_some_iff.1 ht).1
  obtain ⟨n1, n2, n3⟩ := D7 hnum
  have hsz : t.2.1.data.toList.length = t.2.1.size := by simp
  rw [Ag4 rfl hnum]
  refine A4 (r' := .agg [Ai 1, Ai (O3 0 t.2.1.data.toList : Nat), By ⟨#[]⟩, .d (.v (.slice none 0 0))]) ?_ (by repeat' (first | exact Ad | refine Aa ?_ ?_ | exact Bo | exact Ab _ | refine A9 ?_ | refine Bh ?_))
  refine Af Tryz.func191 rfl rfl (Nat.le_of_ble_eq_true rfl) rfl (Nat.le_refl _) ?_
  repeat' (first | refine rl2 ?_ | refine rs2 (fun h => ?_) (fun h => ?_) | fail)
  refine q9 ?_
  repeat' (first | refine rl2 ?_ | refine rs2 (fun h => ?_) (fun h => ?_) | fail)
  . exfalso; simp at h; omega
  refine b0 (fun k => Nat.beq k 10 || Nat.beq k 11) [(3, [0]), (7, [0])] ?_
  repeat' (first | refine rl7 ?_ | refine rs7 (fun h => ?_) (fun h => ?_) | fail)
  refine Tk _ (B4 ht) (by omega) ?_
  repeat' (first | refine rl7 ?_ | refine rs7 (fun h => ?_) (fun h => ?_) | fail)
  repeat' (first | refine rl0 ?_ | refine rs0 (fun h => ?_) (fun h => ?_) | fail)
  . refine Bt (ι := Nat) (ok := fun i => i <= t.2.1.data.toList.length) (L := fun i => [(0, .ptr 0 0), (2, .ptr 1 0), (3, .ptr 2 0), (4, Ai (O3 0 (t.2.1.data.toList.take i) : Nat)), (5, Ai i)]) (Sx := fun _ => rnS l (a + 1) t) (μ := fun i => t.2.1.data.toList.length - i) 0 (Nat.zero_le _) (by exact (by repeat (first | exact Ag | refine Ac rfl ?_))) rfl ?_
    intro i hi
    have hp10 : O3 0 (t.2.1.data.toList.take i) < 10000 := by
      have h1 := Yw (t.2.1.data.toList.take i) 0 (List.all_eq_true.2 fun x hx => List.all_eq_true.1 n2 x (List.mem_of_mem_take hx))
      have h2 : (t.2.1.data.toList.take i).length <= 4 := by rw [List.length_take]; omega
      have h3 : 10 ^ (t.2.1.data.toList.take i).length <= 10 ^ 4 := Nat.pow_le_pow_right (by decide) h2
      omega
    repeat' (first | refine rl0 ?_ | refine rs0 (fun h => ?_) (fun h => ?_) | fail)
    . have hlt2 : i < t.2.1.data.toList.length := by simp at h |-; omega
      have hnx := Yx hlt2
      obtain ⟨c, hc⟩ : ∃ c, t.2.1.data.toList[i] = c := ⟨_, rfl⟩
      have hg : t.2.1.data.toList.getD ((i : Nat) : Int).toNat 0 = c := by rw [Int.toNat_natCast, List.getD_eq_getElem?_getD, List.getElem?_eq_getElem hlt2, hc]; rfl
      obtain ⟨d1, d2⟩ := Eg (List.all_eq_true.1 n2 c (by rw [<- hc]; exact List.getElem_mem hlt2))
      rw [hc] at hnx
      refine wst rfl rfl ⟨by omega, by show (i : Int) < (t.2.1.size : Int); omega⟩ ?_
      rw [hg]
      repeat' (first | refine rl0 ?_ | refine rs0 (fun h => ?_) (fun h => ?_) | fail)
      refine wst rfl rfl ⟨by show (-9223372036854775808 : Int) <= _; omega, by show _ <= (9223372036854775807 : Int); omega⟩ ?_
      repeat' (first | refine rl0 ?_ | refine rs0 (fun h => ?_) (fun h => ?_) | fail)
      refine ⟨i + 1, by omega, by omega, ?_, rfl⟩
      rw [hnx]
      refine Ac rfl (Ac rfl (Ac rfl (Ac ?_ (Ac rfl Ag))))
      show PV.d (DV.v (Value.int IntKind.i64 (10 * _ + _))) = _
      congr 3; omega
    . have hi2 : i = t.2.1.data.toList.length := by simp at h hi |-; omega
      subst hi2
      rw [List.take_length]
  . exfalso; simp_all
  . exfalso; simp_all
end Go.Proofs.YtiledamgmppcmaaGreatDoor
namespace Go.Proofs.YtiledamgmppcmaaGreatDoor
open Go.RowKit
set_option maxHeartbeats 2000000 in
theorem Zb {l : List TkZ} {n : Nat} (hl : l.length <= 9223372036854775806) (hk : D5 l) (hnum : NumR l) (ih : Af8 l n) {a : Nat} (ha : a <= l.length) (hn : 8 * (l.length - a) + 2 <= n + 1) : Rs 191 [.ptr 0 0] l a (pE l (n + 1) 7 a) := by
  rw [pE]
  cases ht : l[a]? with
  | none =>
    have h5 : l.length <= a := List.getElem?_eq_none_iff.1 ht
    rw [if_neg (by rw [Kn h5]; simp), if_neg (by rw [Kn h5]; simp), if_neg (by rw [Kn h5]; simp), if_neg (by rw [Kn h5]; simp)]
    unfold Jm
    rw [ht]
    refine Ld .nil (A4 (r' := .agg D4) ?_ (by repeat' (first | exact Ad | refine Aa ?_ ?_ | exact Bo | exact Ab _ | refine A9 ?_ | refine Bh ?_)))
    refine Af Tryz.func191 rfl rfl (Nat.le_of_ble_eq_true rfl) rfl (Nat.le_refl _) ?_
    repeat' (first | refine rl0 ?_ | refine rs0 (fun h => ?_) (fun h => ?_) | fail)
    . rfl
    . exfalso; simp at h; omega
  | some t =>
    have hlt : a < l.length := (List.getElem?_eq_some_iff.1 ht).1
    by_cases h13 : t.1 = 1 \/ t.1 = 3
    . rw [if_neg (by rw [Ko ht h13]; simp), if_neg (by rw [Ko ht h13]; simp), if_neg (by rw [Ko ht h13]; simp), if_neg (by rw [Ko ht h13]; simp)]
      unfold Jm
      rw [ht]
      show Rs _ _ l a (Gf t a)
      unfold Gf
      by_cases e1 : t.1 = 1
      . rw [if_pos e1]
        refine Js (A4 (r' := .agg [Ai 2, Ai 0, By t.2.1, .d (.v (.slice none 0 0))]) ?_ (by repeat' (first | exact Ad | refine Aa ?_ ?_ | exact Bo | exact Ab _ | refine A9 ?_ | refine Bh ?_)))
        refine Af Tryz.func191 rfl rfl (Nat.le_of_ble_eq_true rfl) rfl (Nat.le_refl _) ?_
        repeat' (first | refine rl2 ?_ | refine rs2 (fun h => ?_) (fun h => ?_) | fail)
        refine q9 ?_
        repeat' (first | refine rl2 ?_ | refine rs2 (fun h => ?_) (fun h => ?_) | fail)
        . exfalso; simp at h; omega
        refine b0 (fun k => Nat.beq k 10 || Nat.beq k 11) [(3, [0]), (7, [0])] ?_
        repeat' (first | refine rl7 ?_ | refine rs7 (fun h => ?_) (fun h => ?_) | fail)
        refine Tk _ (B4 ht) (by omega) ?_
        repeat' (first | refine rl7 ?_ | refine rs7 (fun h => ?_) (fun h => ?_) | fail)
        repeat' (first | refine rl0 ?_ | refine rs0 (fun h => ?_) (fun h => ?_) | fail)
        . exfalso; simp_all
        . rfl
        . exfalso; simp_all
      . rw [if_neg e1]
        have e3 : t.1 = 3 := by omega
        rw [if_pos e3]
        exact Js (Zd hl ht e3 (hnum t (List.mem_of_getElem? ht) e3))
    . have n1 : ¬ t.1 = 1 := fun e => h13 (.inl e)
      have n3 : ¬ t.1 = 3 := fun e => h13 (.inr e)
      cases hm0 : Ba l a Ms with
      | true =>
        rw [if_pos rfl]
        have h2 : Ba l a Oc = false := Pg hm0 (by decide)
        have h3 : Ba l a Jg = false := Pg hm0 (by decide)
        have g1 : Rs 191 [.ptr 0 0] l (a + 1) (pE l n 7 (a + 1)) := ih 7 (a + 1) (by omega) (by omega) hlt (by simp [A5]; omega)
        obtain ⟨x, hx, hd⟩ := g1
        generalize pE l n 7 (a + 1) = p at hx hd |-
        have g : An 191 [.ptr 0 0] (rdS l a false) (.ret (exP (nd 5 [x]))) (rdS l p.at' p.bad) := by
          refine Af Tryz.func191 rfl rfl (Nat.le_of_ble_eq_true rfl) rfl (Nat.le_refl _) ?_
          repeat' (first | refine rl2 ?_ | refine rs2 (fun h => ?_) (fun h => ?_) | fail)
          refine q9 ?_
          repeat' (first | refine rl2 ?_ | refine rs2 (fun h => ?_) (fun h => ?_) | fail)
          . exfalso; simp at h; omega
          refine b0 (fun k => Nat.beq k 10 || Nat.beq k 11) [(3, [0]), (7, [0])] ?_
          repeat' (first | refine rl7 ?_ | refine rs7 (fun h => ?_) (fun h => ?_) | fail)
          refine Tk _ (B4 ht) (by omega) ?_
          repeat' (first | refine rl7 ?_ | refine rs7 (fun h => ?_) (fun h => ?_) | fail)
          repeat' (first | refine rl0 ?_ | refine rs0 (fun h => ?_) (fun h => ?_) | fail)
          . exfalso; simp_all
          . exfalso; simp_all
          refine wb1 0 (Dl hl hk h2) ?_
          repeat' (first | refine rl0 ?_ | refine rs0 (fun h => ?_) (fun h => ?_) | fail)
          refine wb1 0 (Dl hl hk h3) ?_
          repeat' (first | refine rl0 ?_ | refine rs0 (fun h => ?_) (fun h => ?_) | fail)
          refine wb1 0 (Dl hl hk hm0) ?_
          repeat' (first | refine rl0 ?_ | refine rs0 (fun h => ?_) (fun h => ?_) | fail)
          refine wb1 0 hd ?_
          repeat' (first | refine rl0 ?_ | refine rs0 (fun h => ?_) (fun h => ?_) | fail)
          exact (Yi 5 x).symm
        cases hb : p.bad with
        | true => rw [Bu hb]; rw [hb] at g; exact Ld _ g
        | false => rw [Cu hb]; rw [hb] at g; obtain rfl := hx hb; exact Js g
      | false =>
      rw [if_neg (by simp)]
      cases h2 : Ba l a Oc with
      | true =>
        rw [if_pos rfl]
        refine Js (A4 (r' := .agg [Ai 3, Ai 0, By ⟨#[]⟩, .d (.v (.slice none 0 0))]) ?_ (by repeat' (first | exact Ad | refine Aa ?_ ?_ | exact Bo | exact Ab _ | refine A9 ?_ | refine Bh ?_)))
        refine Af Tryz.func191 rfl rfl (Nat.le_of_ble_eq_true rfl) rfl (Nat.le_refl _) ?_
        repeat' (first | refine rl2 ?_ | refine rs2 (fun h => ?_) (fun h => ?_) | fail)
        refine q9 ?_
        repeat' (first | refine rl2 ?_ | refine rs2 (fun h => ?_) (fun h => ?_) | fail)
        . exfalso; simp at h; omega
        refine b0 (fun k => Nat.beq k 10 || Nat.beq k 11) [(3, [0]), (7, [0])] ?_
        repeat' (first | refine rl7 ?_ | refine rs7 (fun h => ?_) (fun h => ?_) | fail)
        refine Tk _ (B4 ht) (by omega) ?_
        repeat' (first | refine rl7 ?_ | refine rs7 (fun h => ?_) (fun h => ?_) | fail)
        repeat' (first | refine rl0 ?_ | refine rs0 (fun h => ?_) (fun h => ?_) | fail)
        . exfalso; simp_all
        . exfalso; simp_all
        refine wb1 0 (Dl hl hk h2) ?_
        repeat' (first | refine rl0 ?_ | refine rs0 (fun h => ?_) (fun h => ?_) | fail)
        rfl
      | false =>
      rw [if_neg (by simp)]
      cases h3 : Ba l a Jg with
      | true =>
        rw [if_pos rfl]
        refine Js (A4 (r' := .agg [Ai 4, Ai 0, By ⟨#[]⟩, .d (.v (.slice none 0 0))]) ?_ (by repeat' (first | exact Ad | refine Aa ?_ ?_ | exact Bo | exact Ab _ | refine A9 ?_ | refine Bh ?_)))
        refine Af Tryz.func191 rfl rfl (Nat.le_of_ble_eq_true rfl) rfl (Nat.le_refl _) ?_
        repeat' (first | refine rl2 ?_ | refine rs2 (fun h => ?_) (fun h => ?_) | fail)
        refine q9 ?_
        repeat' (first | refine rl2 ?_ | refine rs2 (fun h => ?_) (fun h => ?_) | fail)
        . exfalso; simp at h; omega
        refine b0 (fun k => Nat.beq k 10 || Nat.beq k 11) [(3, [0]), (7, [0])] ?_
        repeat' (first | refine rl7 ?_ | refine rs7 (fun h => ?_) (fun h => ?_) | fail)
        refine Tk _ (B4 ht) (by omega) ?_
        repeat' (first | refine rl7 ?_ | refine rs7 (fun h => ?_) (fun h => ?_) | fail)
        repeat' (first | refine rl0 ?_ | refine rs0 (fun h => ?_) (fun h => ?_) | fail)
        . exfalso; simp_all
        . exfalso; simp_all
        refine wb1 0 (Dl hl hk h2) ?_
        repeat' (first | refine rl0 ?_ | refine rs0 (fun h => ?_) (fun h => ?_) | fail)
        refine wb1 0 (Dl hl hk h3) ?_
        repeat' (first | refine rl0 ?_ | refine rs0 (fun h => ?_) (fun h => ?_) | fail)
        rfl
      | false =>
      rw [if_neg (by simp)]
      cases h4 : Ba l a Ik with
      | true =>
        rw [if_pos rfl]
        have g1 : Rs 73 [.ptr 0 0] l (a + 1) (pE l n 0 (a + 1)) := ih 0 (a + 1) (by omega) (by omega) hlt (by simp [A5]; omega)
        obtain ⟨x, hx, hd⟩ := g1
        generalize pE l n 0 (a + 1) = p at hx hd |-
        have g : ∀ b f, An 117 [.ptr 0 0, By Hl] (rdS l p.at' p.bad) (.ret (.tup [])) (rdS l b f) -> An 191 [.ptr 0 0] (rdS l a false) (.ret (exP x)) (rdS l b f) := by
          intro b f hm
          refine Af Tryz.func191 rfl rfl (Nat.le_of_ble_eq_true rfl) rfl (Nat.le_refl _) ?_
          repeat' (first | refine rl2 ?_ | refine rs2 (fun h => ?_) (fun h => ?_) | fail)
          refine q9 ?_
          repeat' (first | refine rl2 ?_ | refine rs2 (fun h => ?_) (fun h => ?_) | fail)
          . exfalso; simp at h; omega
          refine b0 (fun k => Nat.beq k 10 || Nat.beq k 11) [(3, [0]), (7, [0])] ?_
          repeat' (first | refine rl7 ?_ | refine rs7 (fun h => ?_) (fun h => ?_) | fail)
          refine Tk _ (B4 ht) (by omega) ?_
          repeat' (first | refine rl7 ?_ | refine rs7 (fun h => ?_) (fun h => ?_) | fail)
          repeat' (first | refine rl0 ?_ | refine rs0 (fun h => ?_) (fun h => ?_) | fail)
          . exfalso; simp_all
          . exfalso; simp_all
          refine wb1 0 (Dl hl hk h2) ?_
          repeat' (first | refine rl0 ?_ | refine rs0 (fun h => ?_) (fun h => ?_) | fail)
          refine wb1 0 (Dl hl hk h3) ?_
          repeat' (first | refine rl0 ?_ | refine rs0 (fun h => ?_) (fun h => ?_) | fail)
          refine wb1 0 (Dl hl hk hm0) ?_
          repeat' (first | refine rl0 ?_ | refine rs0 (fun h => ?_) (fun h => ?_) | fail)
          refine wb1 0 (Dl hl hk h4) ?_
          repeat' (first | refine rl0 ?_ | refine rs0 (fun h => ?_) (fun h => ?_) | fail)
          refine wb1 0 hd ?_
          repeat' (first | refine rl0 ?_ | refine rs0 (fun h => ?_) (fun h => ?_) | fail)
          refine wb1 0 hm ?_
          repeat' (first | refine rl0 ?_ | refine rs0 (fun h => ?_) (fun h => ?_) | fail)
          rfl
        cases hb : p.bad with
        | true =>
          rw [Bu hb]; rw [hb] at g
          exact Ld _ (g _ _ (Nm hl hk))
        | false =>
          rw [Cu hb]; rw [hb] at g
          obtain rfl := hx hb
          cases h5 : Ba l p.at' Hl with
          | true => rw [E4 h5]; exact Js (g _ _ (Ro hl hk h5))
          | false => rw [E3 h5]; exact Ld _ (g _ _ (T0 hl hk h5))
      | false =>
      rw [if_neg (by simp)]
      unfold Jm
      rw [ht]
      show Rs _ _ l a (Gf t a)
      unfold Gf
      rw [if_neg n1, if_neg n3]
      refine Ld .nil (A4 (r' := .agg D4) ?_ (by repeat' (first | exact Ad | refine Aa ?_ ?_ | exact Bo | exact Ab _ | refine A9 ?_ | refine Bh ?_)))
      refine Af Tryz.func191 rfl rfl (Nat.le_of_ble_eq_true rfl) rfl (Nat.le_refl _) ?_
      repeat' (first | refine rl2 ?_ | refine rs2 (fun h => ?_) (fun h => ?_) | fail)
      refine q9 ?_
      repeat' (first | refine rl2 ?_ | refine rs2 (fun h => ?_) (fun h => ?_) | fail)
      . exfalso; simp at h; omega
      refine b0 (fun k => Nat.beq k 10 || Nat.beq k 11) [(3, [0]), (7, [0])] ?_
      repeat' (first | refine rl7 ?_ | refine rs7 (fun h => ?_) (fun h => ?_) | fail)
      refine Tk _ (B4 ht) (by omega) ?_
      repeat' (first | refine rl7 ?_ | refine rs7 (fun h => ?_) (fun h => ?_) | fail)
      repeat' (first | refine rl0 ?_ | refine rs0 (fun h => ?_) (fun h => ?_) | fail)
      . exfalso; simp_all
      . exfalso; simp_all
      refine wb1 0 (Dl hl hk h2) ?_
      repeat' (first | refine rl0 ?_ | refine rs0 (fun h => ?_) (fun h => ?_) | fail)
      refine wb1 0 (Dl hl hk h3) ?_
      repeat' (first | refine rl0 ?_ | refine rs0 (fun h => ?_) (fun h => ?_) | fail)
      refine wb1 0 (Dl hl hk hm0) ?_
      repeat' (first | refine rl0 ?_ | refine rs0 (fun h => ?_) (fun h => ?_) | fail)
      refine wb1 0 (Dl hl hk h4) ?_
      repeat' (first | refine rl0 ?_ | refine rs0 (fun h => ?_) (fun h => ?_) | fail)
      rfl
end Go.Proofs.YtiledamgmppcmaaGreatDoor
namespace Go.Proofs.YtiledamgmppcmaaGreatDoor
open Go.RowKit
theorem Aod {l : List TkZ} (hl : l.length <= 9223372036854775806) (hk : D5 l) (hnum : NumR l) : ∀ n, Af8 l n := by
  intro n
  induction n using Nat.strongRecOn with
  | ind n ih =>
    intro m a hm h4 ha hn
    cases n with
    | zero =>
      exfalso
      have : 2 <= A5 m := by unfold A5; split <;> omega
      omega
    | succ n =>
      have ihn := ih n (Nat.lt_succ_self n)
      have hc : m = 0 \/ m = 3 \/ m = 7 \/ m = 1 \/ m = 2 \/ m = 5 \/ m = 6 := by omega
      rcases hc with rfl | rfl | rfl | hm
      . exact Ahj hl hk ihn ha hn
      . exact Aoe hl hk ihn ha hn
      . exact Zb hl hk hnum ihn ha hn
      . have h := Ahk hl hk (fun k hk => ih k (by omega)) hm ha hn
        have e1 : fnR m = 116 := by rcases hm with rfl | rfl | rfl | rfl <;> rfl
        have e2 : argR m = [.ptr 0 0, Ai (lvR m)] := by rcases hm with rfl | rfl | rfl | rfl <;> rfl
        rw [e1, e2]; exact h
theorem Vn {k : Int} {s : List UInt8} {p : Int} (h : B5 k s p = 0) : Ay k s = true := by
  unfold B5 at h
  split at h
  . cases h
  . rename_i hn
    cases hb : Ay k s with
    | true => rfl
    | false => exact absurd (.inr (.inr hb)) hn
theorem Agy {l : List TkZ} (h : Fr l = -1) : D5 l := fun t ht => by
  have h1 := Vn (Ff h t ht)
  rw [Ep] at h1
  by_cases e1 : t.1 = 1
  . exact .inl e1
  by_cases e2 : t.1 = 2
  . exact .inr (.inl e2)
  by_cases e3 : t.1 = 3
  . exact .inr (.inr (.inl e3))
  by_cases e4 : t.1 = 4
  . exact .inr (.inr (.inr e4))
  rw [if_neg e1, if_neg e2, if_neg e3, if_neg e4] at h1; cases h1
theorem Ag5 {l : List TkZ} (h : Fr l = -1) : NumR l := fun t ht h3 => by
  have h1 := Vn (Ff h t ht)
  rw [Ep, if_neg (by omega), if_neg (by omega), if_pos h3] at h1
  exact h1
theorem I7 (k : Int) (s : ByteArray) (p : Int) (hs : s.size <= 9223372036854775807) : An 72 [tkP k s p] ⟨[], []⟩ (.ret (Ai (B5 k s.data.toList p))) ⟨[], []⟩ := by
  refine J4 Tryz.func72 rfl rfl rfl fun K w vs _ hA => ?_
  simp only [Bm, Rep, Ef] at hA
  obtain ⟨u, us, rfl, ⟨cs, rfl, u0, us0, rfl, r0, u1, us1, rfl, r1, u2, us2, rfl, r2, rfl⟩, rfl⟩ := hA
  rw [r0.1, r1.1, r2.1]
  exact We k s p w hs
@[reducible] def rpL (l : List TkZ) (a : Int) (i : Nat) : List (Nat × PV) := [(0, Ll l), (1, Ai a), (4, .ptr 0 0), (7, Ai i)]
theorem Wg (l : List TkZ) (a : Int) (h0 : a < 0 \/ (l.length : Int) < a) : An 30 [Ll l, Ai a] ⟨[], []⟩ (.ret (.tup [exP .nil, Ai 0, Ai 2])) ⟨[], []⟩ := by
  refine A4 (r' := .tup [.agg D4, Ai 0, Ai 2]) ?_ (by repeat' (first | exact Ad | refine Aa ?_ ?_ | exact Bo | exact Ab _ | refine A9 ?_ | refine Bh ?_))
  refine Af Tryz.func30 rfl rfl (Nat.le_of_ble_eq_true rfl) rfl (Nat.le_refl _) ?_
  repeat' (first | refine rl0 ?_ | refine rs0 (fun h => ?_) (fun h => ?_) | fail)
  . rfl
  . rfl
  . exfalso; simp_all; omega
theorem Wi (l : List TkZ) (a : Int) (hs : ∀ t ∈ l, t.2.1.size <= 9223372036854775807) (h0 : 0 <= a /\ a <= l.length) (hi : 0 <= Fr l) (hl : l.length <= 9223372036854775806) : An 30 [Ll l, Ai a] ⟨[], []⟩ (.ret (.tup [exP .nil, Ai (Fr l), Ai 350])) ⟨[], []⟩ := by
  refine A4 (r' := .tup [.agg D4, Ai (Fr l), Ai 350]) ?_ (by repeat' (first | exact Ad | refine Aa ?_ ?_ | exact Bo | exact Ab _ | refine A9 ?_ | refine Bh ?_))
  refine Af Tryz.func30 rfl rfl (Nat.le_of_ble_eq_true rfl) rfl (Nat.le_refl _) ?_
  repeat' (first | refine rl0 ?_ | refine rs0 (fun h => ?_) (fun h => ?_) | fail)
  . exfalso; simp at h; omega
  . exfalso; simp at h; omega
  refine Bt (ι := Nat) (ok := fun i => i <= l.length /\ (l.take i).any Xg = false) (L := rpL l a) (Sx := fun _ => ⟨[D4], []⟩) (μ := fun i => l.length - i) 0 ⟨Nat.zero_le _, by simp⟩ (by exact (by repeat (first | exact Ag | refine Ac rfl ?_))) rfl ?_
  rintro i ⟨hil, hm⟩
  repeat' (first | refine rl0 ?_ | refine rs0 (fun h => ?_) (fun h => ?_) | fail)
  . have hlt : i < l.length := by simpa using h
    obtain ⟨t, ht⟩ : ∃ t, l[i]? = some t := ⟨_, List.getElem?_eq_getElem hlt⟩
    refine wix _ rfl rfl rfl rfl rfl (Ku ht) (by omega) ?_
    repeat' (first | refine rl0 ?_ | refine rs0 (fun h => ?_) (fun h => ?_) | fail)
    refine wp1 (I7 t.1 t.2.1 t.2.2 (hs t (List.mem_of_getElem? ht))) ?_
    repeat' (first | refine rl0 ?_ | refine rs0 (fun h => ?_) (fun h => ?_) | fail)
    . rw [show Fr l = i from by unfold Fr; rw [Oh ht hm h]]; rfl
    . exact ⟨i + 1, ⟨by omega, Xp ht hm h⟩, by omega, (by repeat (first | exact Ag | refine Ac rfl ?_)), rfl⟩
  . exfalso
    rw [List.take_of_length_le (by simp at h; omega)] at hm
    rw [show Fr l = -1 from by unfold Fr; rw [List.findIdx?_eq_none_iff.2 (by rw [List.any_eq_false] at hm; intro x hx; simpa using hm x hx)]] at hi
    omega
theorem Wh (l : List TkZ) (a : Int) {k b : Nat} {x : Ex} (hs : ∀ t ∈ l, t.2.1.size <= 9223372036854775807) (ha : a = k) (h0 : k <= l.length) (hl : l.length <= 9223372036854775806) (hidx : Fr l = -1) (hx : An 73 [.ptr 0 0] (rdS l k false) (.ret (exP x)) (rdS l b true)) : An 30 [Ll l, Ai a] ⟨[], []⟩ (.ret (.tup [exP .nil, Ai b, Ai 350])) ⟨[], []⟩ := by
  subst ha
  refine A4 (r' := .tup [.agg D4, Ai b, Ai 350]) ?_ (by repeat' (first | exact Ad | refine Aa ?_ ?_ | exact Bo | exact Ab _ | refine A9 ?_ | refine Bh ?_))
  refine Af Tryz.func30 rfl rfl (Nat.le_of_ble_eq_true rfl) rfl (Nat.le_refl _) ?_
  repeat' (first | refine rl0 ?_ | refine rs0 (fun h => ?_) (fun h => ?_) | fail)
  . exfalso; simp at h; omega
  refine Bt (ι := Nat) (ok := fun i => i <= l.length) (L := rpL l k) (Sx := fun _ => ⟨[D4], []⟩) (μ := fun i => l.length - i) 0 (Nat.zero_le _) (by exact (by repeat (first | exact Ag | refine Ac rfl ?_))) rfl ?_
  intro i hil
  repeat' (first | refine rl0 ?_ | refine rs0 (fun h => ?_) (fun h => ?_) | fail)
  . have hlt : i < l.length := by simpa using h
    obtain ⟨t, ht⟩ : ∃ t, l[i]? = some t := ⟨_, List.getElem?_eq_getElem hlt⟩
    refine wix _ rfl rfl rfl rfl rfl (Ku ht) (by omega) ?_
    repeat' (first | refine rl0 ?_ | refine rs0 (fun h => ?_) (fun h => ?_) | fail)
    have hck := I7 t.1 t.2.1 t.2.2 (hs t (List.mem_of_getElem? ht))
    rw [Ff hidx t (List.mem_of_getElem? ht)] at hck
    refine wp1 hck ?_
    repeat' (first | refine rl0 ?_ | refine rs0 (fun h => ?_) (fun h => ?_) | fail)
    exact ⟨i + 1, by omega, by omega, (by repeat (first | exact Ag | refine Ac rfl ?_)), rfl⟩
  refine wb1 1 hx ?_
  repeat' (first | refine rl2 ?_ | refine rs2 (fun h => ?_) (fun h => ?_) | fail)
  refine b0 (fun k => Nat.beq k 5) [(4, [1])] ?_
  repeat' (first | refine rl7 ?_ | refine rs7 (fun h => ?_) (fun h => ?_) | fail)
  repeat' (first | refine rl0 ?_ | refine rs0 (fun h => ?_) (fun h => ?_) | fail)
  rfl
theorem Y7 (l : List TkZ) (a : Int) {k b : Nat} {x : Ex} (hs : ∀ t ∈ l, t.2.1.size <= 9223372036854775807) (ha : a = k) (h0 : k <= l.length) (hl : l.length <= 9223372036854775806) (hidx : Fr l = -1) (hx : An 73 [.ptr 0 0] (rdS l k false) (.ret (exP x)) (rdS l b false)) (hsm : x.small) (hv : Ge x = true) :
    An 30 [Ll l, Ai a] ⟨[], []⟩ (.ret (.tup [exP x, Ai b, Ai 0])) ⟨[], []⟩ := by
  subst ha
  have hr := Lb x hsm
  rw [hv] at hr
  refine Af Tryz.func30 rfl rfl (Nat.le_of_ble_eq_true rfl) rfl (Nat.le_refl _) ?_
  repeat' (first | refine rl0 ?_ | refine rs0 (fun h => ?_) (fun h => ?_) | fail)
  . exfalso; simp at h; omega
  refine Bt (ι := Nat) (ok := fun i => i <= l.length) (L := rpL l k) (Sx := fun _ => ⟨[D4], []⟩) (μ := fun i => l.length - i) 0 (Nat.zero_le _) (by exact (by repeat (first | exact Ag | refine Ac rfl ?_))) rfl ?_
  intro i hil
  repeat' (first | refine rl0 ?_ | refine rs0 (fun h => ?_) (fun h => ?_) | fail)
  . have hlt : i < l.length := by simpa using h
    obtain ⟨t, ht⟩ : ∃ t, l[i]? = some t := ⟨_, List.getElem?_eq_getElem hlt⟩
    refine wix _ rfl rfl rfl rfl rfl (Ku ht) (by omega) ?_
    repeat' (first | refine rl0 ?_ | refine rs0 (fun h => ?_) (fun h => ?_) | fail)
    have hck := I7 t.1 t.2.1 t.2.2 (hs t (List.mem_of_getElem? ht))
    rw [Ff hidx t (List.mem_of_getElem? ht)] at hck
    refine wp1 hck ?_
    repeat' (first | refine rl0 ?_ | refine rs0 (fun h => ?_) (fun h => ?_) | fail)
    exact ⟨i + 1, by omega, by omega, (by repeat (first | exact Ag | refine Ac rfl ?_)), rfl⟩
  refine wb1 1 hx ?_
  repeat' (first | refine rl2 ?_ | refine rs2 (fun h => ?_) (fun h => ?_) | fail)
  refine wp1 hr ?_
  repeat' (first | refine rl2 ?_ | refine rs2 (fun h => ?_) (fun h => ?_) | fail)
  refine b0 (fun k => Nat.beq k 5) [(0, [2]), (4, [1])] ?_
  repeat' (first | refine rl7 ?_ | refine rs7 (fun h => ?_) (fun h => ?_) | fail)
  repeat' (first | refine rl0 ?_ | refine rs0 (fun h => ?_) (fun h => ?_) | fail)
  rfl
theorem T6 (l : List TkZ) (a : Int) {k b : Nat} {x : Ex} (hs : ∀ t ∈ l, t.2.1.size <= 9223372036854775807) (ha : a = k) (h0 : k <= l.length) (hl : l.length <= 9223372036854775806) (hidx : Fr l = -1) (hx : An 73 [.ptr 0 0] (rdS l k false) (.ret (exP x)) (rdS l b false)) (hsm : x.small) (hv : Ge x = false) :
    An 30 [Ll l, Ai a] ⟨[], []⟩ (.ret (.tup [exP .nil, Ai a, Ai 3])) ⟨[], []⟩ := by
  subst ha
  have hr := Lb x hsm
  rw [hv] at hr
  refine A4 (r' := .tup [.agg D4, Ai k, Ai 3]) ?_ (by repeat' (first | exact Ad | refine Aa ?_ ?_ | exact Bo | exact Ab _ | refine A9 ?_ | refine Bh ?_))
  refine Af Tryz.func30 rfl rfl (Nat.le_of_ble_eq_true rfl) rfl (Nat.le_refl _) ?_
  repeat' (first | refine rl0 ?_ | refine rs0 (fun h => ?_) (fun h => ?_) | fail)
  . exfalso; simp at h; omega
  refine Bt (ι := Nat) (ok := fun i => i <= l.length) (L := rpL l k) (Sx := fun _ => ⟨[D4], []⟩) (μ := fun i => l.length - i) 0 (Nat.zero_le _) (by exact (by repeat (first | exact Ag | refine Ac rfl ?_))) rfl ?_
  intro i hil
  repeat' (first | refine rl0 ?_ | refine rs0 (fun h => ?_) (fun h => ?_) | fail)
  . have hlt : i < l.length := by simpa using h
    obtain ⟨t, ht⟩ : ∃ t, l[i]? = some t := ⟨_, List.getElem?_eq_getElem hlt⟩
    refine wix _ rfl rfl rfl rfl rfl (Ku ht) (by omega) ?_
    repeat' (first | refine rl0 ?_ | refine rs0 (fun h => ?_) (fun h => ?_) | fail)
    have hck := I7 t.1 t.2.1 t.2.2 (hs t (List.mem_of_getElem? ht))
    rw [Ff hidx t (List.mem_of_getElem? ht)] at hck
    refine wp1 hck ?_
    repeat' (first | refine rl0 ?_ | refine rs0 (fun h => ?_) (fun h => ?_) | fail)
    exact ⟨i + 1, by omega, by omega, (by repeat (first | exact Ag | refine Ac rfl ?_)), rfl⟩
  refine wb1 1 hx ?_
  repeat' (first | refine rl2 ?_ | refine rs2 (fun h => ?_) (fun h => ?_) | fail)
  refine wp1 hr ?_
  repeat' (first | refine rl0 ?_ | refine rs0 (fun h => ?_) (fun h => ?_) | fail)
  rfl
theorem Y6 (l : List TkZ) (a : Int) (hl : l.length <= 9223372036854775806) (hs : ∀ t ∈ l, t.2.1.size <= 9223372036854775807) : An 30 [Ll l, Ai a] ⟨[], []⟩ (.ret (.tup [exP (De l a).1, Ai (De l a).2.1, Ai (De l a).2.2])) ⟨[], []⟩ := by
  unfold De
  by_cases h0 : a < 0 \/ (l.length : Int) < a
  . rw [if_pos h0]
    exact Wg l a h0
  rw [if_neg h0]
  by_cases h1 : Fr l ≠ -1
  . rw [if_pos h1]
    exact Wi l a hs (by omega) ((Iq l).resolve_left h1) hl
  rw [if_neg h1]
  have h1' : Fr l = -1 := by omega
  obtain ⟨k, rfl⟩ := Int.eq_ofNat_of_zero_le (show 0 <= a by omega)
  have hk : k <= l.length := by omega
  have g : Rs 73 [.ptr 0 0] l k (D1 l k) := Aod hl (Agy h1') (Ag5 h1') _ 0 k (by omega) (by omega) hk (by simp [A5])
  obtain ⟨x, hx, hd⟩ := g
  have hsm : (D1 l k).x.small := (G1 hs _).1 _ _
  simp only [Int.toNat_natCast]
  cases hb : (D1 l k).bad with
  | true =>
    rw [if_pos rfl]
    rw [hb] at hd
    exact Wh l k hs rfl hk hl h1' hd
  | false =>
    rw [if_neg (by simp)]
    rw [hb] at hd
    obtain rfl := hx hb
    by_cases hc : Bg (D1 l k).x = 0
    . rw [if_pos hc]
      exact Y7 l k hs rfl hk hl h1' hd hsm (by unfold Bg at hc; split at hc <;> first | assumption | cases hc)
    . rw [if_neg hc]
      exact T6 l k hs rfl hk hl h1' hd hsm (by
        cases hv : Ge (D1 l k).x with
        | false => rfl
        | true => unfold Bg at hc; rw [hv] at hc; exact absurd rfl hc)
end Go.Proofs.YtiledamgmppcmaaGreatDoor
namespace Go.Proofs.YtiledamgmppcmaaGreatDoor
open Go.RowKit
theorem Acv (s : ByteArray) : An 26 [By s] ⟨[], []⟩ (.ret (.tup [Aad (Cn s.data.toList).1, Ai ((Cn s.data.toList).2.1 : Int), Ai (Cn s.data.toList).2.2])) ⟨[], []⟩ := by
  refine ⟨enters_of Tryz.func26 rfl rfl, fun K w vs hI hA => ?_⟩
  simp only [Bm] at hA
  obtain ⟨u, us, rfl, hr, rfl⟩ := hA
  rw [Ej hr]
  refine (Y8 s w).mono ?_
  rintro e w' ⟨v, rfl, hT, hB⟩
  obtain ⟨h1, h2⟩ := hI.below hB
  refine ⟨K, h2, h1, _, rfl, ?_⟩
  simp only [Rep]
  refine ⟨_, rfl, ?_⟩
  simp only [Bm]
  refine ⟨_, _, rfl, ?_, _, _, rfl, Hf rfl, _, _, rfl, Hf rfl, rfl⟩
  obtain ⟨hlen, hv⟩ := hT
  simp only [Rep, Ef, List.length_map]
  rcases hv with ⟨rfl, h0⟩ | ⟨g, cap, cur, rfl, hg, hh, hn, hcap, hsz, hcur⟩
  . exact ⟨none, 0, by rw [h0], by omega, by omega, fun hne => by rw [List.length_eq_zero_iff] at h0; rw [h0] at hne; simp at hne⟩
  . refine ⟨_, cap, rfl, hn, by simpa [maxLen] using hcap, fun _ => ⟨g, 0, rfl, ?_, Tg fun j v hj => ?_⟩⟩
    . obtain ⟨f1, f2, f3⟩ := L8.new hI hg (Array.getElem?_eq_some_iff.1 hh).1
      exact ⟨f1, f2, fun hm => by have := hI.Mlt _ hm; omega, fun lo hm => by have := hI.Tlt _ _ hm; omega, fun t c lo ht hc => absurd hc (f3 t c lo ht)⟩
    . rw [Nat.zero_add, cell_of_row _ _ j _ _ _ hh]
      rw [<- hcur] at hj
      have hjl := (List.getElem?_eq_some_iff.1 hj).1
      rw [List.getElem?_take] at hj
      split at hj
      . simpa using hj
      . cases hj
end Go.Proofs.YtiledamgmppcmaaGreatDoor
namespace Go.Proofs.YtiledamgmppcmaaGreatDoor
open Go.RowKit
theorem C4 {w : World} {o : Obj} {a : Addr} {v : Value} (h : w.cell? a = some v) : (w.alloc o).cell? a = some v :=
  (World.cell?_alloc_lt _ _ _ (World.block_lt_of_cell? w a h)).trans h
end Go.Proofs.YtiledamgmppcmaaGreatDoor
namespace Go.Proofs.YtiledamgmppcmaaGreatDoor
open Go.RowKit
theorem Nx (n f : Nat) (l : List UInt8) (acc : List Tok) (h : acc.length <= 2000) : (Cv n f l acc).1.length <= 2000 := by
  induction f generalizing l acc with
  | zero => simpa [Cv] using h
  | succ f ih =>
    rw [Cv]
    split
    . exact h
    . split
      . simp
      . split
        . simp
        . rename_i h3
          exact ih _ _ (by rw [List.length_append]; simp; omega)
theorem Ny (l : List UInt8) : (Cn l).1.length <= 2000 := by
  unfold Cn
  split
  . simp
  . exact Nx _ _ _ _ (by simp)
end Go.Proofs.YtiledamgmppcmaaGreatDoor
namespace Go.Proofs.YtiledamgmppcmaaGreatDoor
open Go.RowKit
def Tm (r : List UInt8) : Prop := r = [] \/ ∃ c t, r = c :: t /\ (c = 32 \/ c = 10 \/ c = 35)
theorem Kk {c : UInt8} (h : c = 32 \/ c = 10 \/ c = 35) : B9 c = false := by
  rcases h with rfl | rfl | rfl <;> decide
theorem Ds {x r : List UInt8} (hx : x.all B9 = true) (hr : Tm r) : (x ++ r).takeWhile B9 = x := by
  induction x with
  | nil =>
    rcases hr with rfl | ⟨c, t, rfl, hc⟩
    . rfl
    . simp [Kk hc]
  | cons a x ih =>
    simp only [List.all_cons, Bool.and_eq_true] at hx
    rw [List.cons_append, List.takeWhile_cons, if_pos hx.1, ih hx.2]
theorem O9 {c : UInt8} (h : Bi c = true) : B9 c = true := by simp [B9, h]
theorem H1 {c : UInt8} (h : Bi c = true) : B7 c = false := by
  simp only [Bi, Bool.and_eq_true, decide_eq_true_eq] at h
  exact Ht (by omega)
theorem Ul {l : List UInt8} {p q : UInt8 -> Bool} (h : ∀ c, p c = true -> q c = true) (hl : l.all p = true) : l.all q = true := by
  rw [List.all_eq_true] at hl |-
  exact fun c hc => h c (hl c hc)
theorem Eo {zs : List (List UInt8)} {l : List UInt8} : Oi zs l = true <-> l ∈ zs := by
  unfold Oi
  rw [List.any_eq_true]
  constructor
  . rintro ⟨y, hy, h⟩
    have : l = y := by simpa using h
    rwa [this]
  . intro h; exact ⟨l, h, by simp⟩
theorem Iz {l : List UInt8} (h : Oi Cs l = true) : l.all B9 = true /\ (l.head?.map B7).getD false = true := by
  have key : (Cs.all fun l => l.all B9 && (l.head?.map B7).getD false) = true := by decide +kernel
  rw [List.all_eq_true] at key
  have := key l (Eo.1 h)
  simpa using this
theorem Ie {x r : List UInt8} (h : x ≠ []) : (x ++ r).head? = x.head? := by
  cases x with | nil => exact absurd rfl h | cons a x => rfl
theorem R6 {x r : List UInt8} (hx : Oi Bz x = true) (hr : Tm r) : Dk (x ++ r) = (4, x) := by
  have hx' := Eo.1 hx
  have key : ∀ c : UInt8, (c = 32 \/ c = 10 \/ c = 35) -> (Bz.all fun x => ((x.head?.map B7).getD false == false) && ((x.head?.map Bi).getD false == false) && ((x.length == 1 && Oi Bz (x ++ [c]) == false && Oi Bz x) || (x.length == 2))) = true := by
    rintro c (rfl | rfl | rfl) <;> decide +kernel
  have hne : x ≠ [] := by rintro rfl; revert hx; decide
  rcases hr with rfl | ⟨c, t, rfl, hc⟩
  . have h := List.all_eq_true.1 (key 32 (.inl rfl)) x hx'
    simp only [Bool.and_eq_true, Bool.or_eq_true, beq_iff_eq] at h
    obtain ⟨⟨h1, h2⟩, h3⟩ := h
    rw [List.append_nil, Dk, h1, h2, if_neg (by simp), if_neg (by simp)]
    have hlen : x.length <= 2 := by rcases h3 with ⟨⟨h3, _⟩, _⟩ | h3 <;> omega
    rw [List.take_of_length_le hlen, if_pos hx]
  . have h := List.all_eq_true.1 (key c hc) x hx'
    simp only [Bool.and_eq_true, Bool.or_eq_true, beq_iff_eq] at h
    obtain ⟨⟨h1, h2⟩, h3⟩ := h
    rw [Dk, Ie hne, h1, h2, if_neg (by simp), if_neg (by simp)]
    rcases h3 with ⟨⟨h3, h4⟩, h5⟩ | h3
    . obtain ⟨a, rfl⟩ : ∃ a, x = [a] := by
        cases x with
        | nil => simp at h3
        | cons a y => cases y with | nil => exact ⟨a, rfl⟩ | cons => simp at h3
      have e2 : ([a] ++ c :: t).take 2 = [a] ++ [c] := by simp
      have e1 : ([a] ++ c :: t).take 1 = [a] := by simp
      rw [e2, h4, e1]; simp
    . have e2 : (x ++ c :: t).take 2 = x := by rw [List.take_append_of_le_length (by omega), List.take_of_length_le (by omega)]
      rw [e2, if_pos hx]
theorem Mg {kd : Int} {x r : List UInt8} (h : Ay kd x = true) (hr : Tm r) : Dk (x ++ r) = (kd, x) := by
  have hne := Ek h
  unfold Ay at h
  split at h
  . rename_i hk; subst hk
    have hp := h
    simp only [Ei, Qx, Bool.and_eq_true] at hp
    obtain ⟨⟨⟨h1, h2⟩, h3⟩, h4⟩ := hp
    rw [Dk, Ie hne, if_pos h2, Ds h1 hr]
    simp only [Bool.not_eq_true'] at h4
    rw [h4]; simp
  . split at h
    . rename_i hk; subst hk
      obtain ⟨h1, h2⟩ := Iz h
      rw [Dk, Ie hne, if_pos h2, Ds h1 hr, h]; simp
    . split at h
      . rename_i hk; subst hk
        have hp := h
        simp only [Bl, Bool.and_eq_true] at hp
        obtain ⟨h1, _⟩ := hp
        cases x with
        | nil => exact absurd rfl hne
        | cons c y =>
          have hc : Bi c = true := by simp only [List.all_cons, Bool.and_eq_true] at h1; exact h1.1
          have e1 : ((c :: y).head?.map B7).getD false = false := by simpa using H1 hc
          have e2 : ((c :: y).head?.map Bi).getD false = true := by simpa using hc
          rw [Dk, Ie hne, e1, e2, if_neg (by simp), if_pos rfl, Ds (Ul (fun _ => O9) h1) hr]
      . split at h
        . rename_i hk; subst hk
          exact R6 h hr
        . cases h
theorem Nv {kd : Int} {c : UInt8} {x : List UInt8} (h : Ay kd (c :: x) = true) : c ≠ 32 /\ c ≠ 10 /\ c ≠ 35 := by
  refine ⟨?_, ?_, ?_⟩ <;> rintro rfl
  all_goals
    unfold Ay at h
    split at h
    . simp only [Ei, Qx, Bool.and_eq_true] at h
      have := h.1.1.2
      revert this; simp; decide
    . split at h
      . have := (Iz h).2
        revert this; simp; decide
      . split at h
        . simp only [Bl, Bool.and_eq_true, List.all_cons] at h
          have := h.1.1
          revert this; decide
        . split at h
          . have key : (Bz.all fun x => (x.head? != some 32) && (x.head? != some 10) && (x.head? != some 35)) = true := by decide +kernel
            have := List.all_eq_true.1 key _ (Eo.1 h)
            revert this; simp
          . cases h
theorem J9 {kd : Int} {x r : List UInt8} (h : Ay kd x = true) : Bb false (x ++ r) = x ++ r := by
  cases x with
  | nil => exact absurd rfl (Ek h)
  | cons c x =>
    obtain ⟨h1, h2, h3⟩ := Nv h
    simp [Bb, h1, h2, h3]
theorem R5 {n f : Nat} {sep x r : List UInt8} {acc : List Tok} {kd : Int} (hs : Bb false (sep ++ (x ++ r)) = x ++ r) (h : Ay kd x = true) (hr : Tm r) (ha : acc.length ≠ 2000) :
    Cv n (f + 1) (sep ++ (x ++ r)) acc = Cv n f r (acc ++ [⟨kd, x, n - (x ++ r).length⟩]) := by
  rw [<- Gj, hs]
  have hne : x ++ r ≠ [] := by intro e; exact Ek h (List.append_eq_nil_iff.1 e).1
  rw [Na (J9 h) hne (by rw [Mg h hr]; exact h) ha, Mg h hr]
  simp
end Go.Proofs.YtiledamgmppcmaaGreatDoor
namespace Go.Proofs.YtiledamgmppcmaaGreatDoor
open Go.RowKit
def Hk (n : Nat) : List UInt8 := if h : n < 10 then [UInt8.ofNat (48 + n)] else Hk (n / 10) ++ [UInt8.ofNat (48 + n % 10)]
termination_by n
theorem Dq {n : Nat} (h : n < 10) : Hk n = [UInt8.ofNat (48 + n)] := by rw [Hk, dif_pos h]
theorem En {n : Nat} (h : ¬ n < 10) : Hk n = Hk (n / 10) ++ [UInt8.ofNat (48 + n % 10)] := by rw [Hk, dif_neg h]
theorem Mw (n : Nat) : 1 <= (Hk n).length /\ (Hk n).length <= n + 1 := by
  induction n using Nat.strongRecOn with
  | _ n ih =>
    by_cases h : n < 10
    . rw [Dq h]; simp
    . rw [En h]
      have := ih (n / 10) (by omega)
      simp; omega
theorem Amc (n : Nat) (h : n < 10) : (⟨#[48, 49, 50, 51, 52, 53, 54, 55, 56, 57]⟩ : ByteArray).extract n (n + 1) = Aq [UInt8.ofNat (48 + n)] := by
  have key : ∀ n, n < 10 -> (⟨#[48, 49, 50, 51, 52, 53, 54, 55, 56, 57]⟩ : ByteArray).extract n (n + 1) = Aq [UInt8.ofNat (48 + n)] := by decide +kernel
  exact key n h
set_option maxHeartbeats 1000000 in
theorem Aj6 (n : Nat) (hn : n <= 1000000) (w : World) :
    Calls Tryz.prog 60 #[.int .i64 n] w fun e w' => e = .returned (.string (Aq (Hk n))) /\ Below w.heap.size w w' := by
  induction n using Nat.strongRecOn generalizing w with
  | _ n ih =>
    by_cases h : n < 10
    . have HE := Lib.hid (Amc n h)
      have HD := Lib.hid (Dq h)
      have k1 : (0 : Int) <= n := by omega
      have k2 : (n : Int) + 1 <= 10 := by omega
      have k3 : ((n : Int) + 1).toNat = n + 1 := by omega
      clear ih
      go_enter Tryz.func60, Tryz.ntmps60
      go_wp2
      go_ret
      exact ⟨by rw [HD.out, <- HE.out]; rfl, Below.refl _ _⟩
    . obtain ⟨X, hX⟩ : ∃ X, Aq (Hk (n / 10)) = X := ⟨_, rfl⟩
      have hc : ∀ w, Calls Tryz.prog 60 #[.int .i64 ((n : Int) / 10)] w fun e w' => e = .returned (.string X) /\ Below w.heap.size w w' := by
        intro w
        have := ih (n / 10) (by omega) (by omega) w
        rw [hX] at this
        rw [show (n : Int) / 10 = ((n / 10 : Nat) : Int) from by omega]
        exact this
      have HC := Lib.hid hc
      have hd10 : n % 10 < 10 := by omega
      have hext := Amc (n % 10) hd10
      obtain ⟨D, hD⟩ : ∃ D, Aq [UInt8.ofNat (48 + n % 10)] = D := ⟨_, rfl⟩
      have HF : Hid (Aq (Hk n) = X ++ D) := Lib.hid (by rw [En h, <- hX, <- hD]; unfold Aq; apply ByteArray.ext; simp)
      have hxs : X.size <= 1000001 := by rw [<- hX]; have := (Mw (n / 10)).2; simp [Aq, ByteArray.size]; omega
      have hds : D.size = 1 := by rw [<- hD]; rfl
      have HDS := Lib.hid hds
      rw [hD] at hext
      have hlt : ¬ n < 10 := h
      have hdec : decide ((n : Int) < 10) = false := by simp; omega
      have k0 : (0 : Int) <= n := by omega
      have k1 : (0 : Int) <= (n : Int) % 10 := by omega
      have k2 : (n : Int) % 10 + 1 <= 10 := by omega
      have k3 : ((n : Int) % 10).toNat = n % 10 := by omega
      have k4 : ((n : Int) % 10 + 1).toNat = n % 10 + 1 := by omega
      have k5 : IntKind.i64.wrap ((n : Int) % 10 + 1) = (n : Int) % 10 + 1 := IntWalk.i64_in _ (by omega)
      have k6 : (X.size : Int) + D.size <= 9223372036854775807 := by omega
      clear ih hc hX hD hd10 h hds
      go_enter Tryz.func60, Tryz.ntmps60
      go_wp2_with fail
      refine Al (by kernel_rfl) (by kernel_rfl) ?_
      repeat (go_big_quiet_step ((go_at_call 60; exact Calls.later_of (HC.out _))))
      refine wpQuiet_nil ?_
      intro w1 hb1
      clear k5
      go_wp2
      go_ret
      exact ⟨by rw [HF.out]; rfl, hb1⟩
abbrev u8v (b : UInt8) : Value := .int .u8 (b.toNat : Int)
def setC : List UInt8 := [97, 98, 99, 120, 121, 122, 95, 48, 49, 57]
def letC (c : UInt8) : UInt8 := setC.getD (c.toNat % 10) 0
def Aap (k wh : UInt8) (ls : List UInt8) (n : Nat) : List UInt8 :=
  if k.toNat % 4 = 1 then Cs.getD (wh.toNat % 23) [] else if k.toNat % 4 = 3 then Bz.getD (wh.toNat % 21) [] else if k.toNat % 4 = 2 then Hk (n % 10000) else 120 :: (ls.take 11).map letC
def Kj (k wh : UInt8) (ls : List UInt8) (n : Nat) : ZTok := ⟨1 + (k.toNat % 4 : Nat), Aap k wh ls n, wh.toNat⟩
theorem let_ext (c : UInt8) : (⟨#[97, 98, 99, 120, 121, 122, 95, 48, 49, 57]⟩ : ByteArray).extract (c.toNat % 10) (c.toNat % 10 + 1) = Aq [letC c] := by
  have key : ∀ m, m < 10 -> (⟨#[97, 98, 99, 120, 121, 122, 95, 48, 49, 57]⟩ : ByteArray).extract m (m + 1) = Aq [setC.getD m 0] := by decide +kernel
  exact key _ (by omega)
set_option maxRecDepth 100000 in
set_option maxHeartbeats 4000000 in
theorem Afz (k wh : UInt8) (v : Value) (ls : List UInt8) (n : Nat) (w : World) (hv : ListS u8v w v ls) (hk : k.toNat % 4 = 2) (hn : n < 4294967296) :
    Calls Tryz.prog 25 #[.agg #[.int .u8 k.toNat, .int .u8 wh.toNat, v, .int .u32 n]] w fun e w' => e = .returned (Kj k wh ls n).val /\ Below w.heap.size w w' := by
  obtain ⟨p, cap, rfl, h1, h2, h3⟩ := hv
  have HV : Hid ((Kj k wh ls n).val = .agg #[.int .i64 3, .string (Aq (Hk (n % 10000))), .int .i64 wh.toNat]) := Lib.hid (by
    unfold Kj Aap ZTok.val; rw [if_neg (by omega), if_neg (by omega), if_pos hk, hk]; rfl)
  have k1 : (k.toNat : Int) % 4 = 2 := by omega
  have k2 : (k.toNat : Int) < 256 := by have := k.toNat_lt; omega
  have k3 : (wh.toNat : Int) < 256 := by have := wh.toNat_lt; omega
  have k4 : (0 : Int) <= (n : Int) % 10000 := by omega
  have k5 : (n : Int) % 10000 < 10000 := by omega
  have hd : ∀ w, Calls Tryz.prog 60 #[.int .i64 ((n : Int) % 10000)] w fun e w' => e = .returned (.string (Aq (Hk (n % 10000)))) /\ Below w.heap.size w w' := by
    intro w
    rw [show (n : Int) % 10000 = ((n % 10000 : Nat) : Int) from by omega]
    exact Aj6 _ (by omega) w
  have HD := Lib.hid hd
  clear h3 hd hk
  go_enter Tryz.func25, Tryz.ntmps25
  go_wp2_with fail
  refine (HD.out _).mono ?_
  rintro e w1 ⟨rfl, hb1⟩
  have HT1 : Hid (Cw w1 (w.heap.size + 1 + 1) (3) ⟨#[]⟩ wh.toNat) := Lib.hid (Cw.below hb1 (A2 (by simp)))
  have HZ1 : Hid (Cw w1 (w.heap.size + 1) 0 ⟨#[]⟩ 0) := Lib.hid (Cw.below hb1 (At (A2 (by simp))))
  have HB1 : Hid (Below w.heap.size w w1) := Lib.hid (El (El (El hb1)))
  have c1 := HT1.out.cells
  have c2 := HT1.out.free
  have c3 := HZ1.out.cells
  have c4 := HZ1.out.free
  have hne : ¬ w.heap.size + 1 = w.heap.size + 1 + 1 := by omega
  have hne2 : ¬ w.heap.size + 1 + 1 = w.heap.size + 1 := by omega
  have hlt1 := B8 HT1.out
  clear hb1
  go_wp2
  have HE : Hid (Cw ((((w1.setCell ⟨w.heap.size + 1 + 1, 1, none⟩ (.string (Aq (Hk (n % 10000))))).setCell ⟨w.heap.size + 1, 0, none⟩ (.int .i64 (3))).setCell ⟨w.heap.size + 1, 1, none⟩ (.string (Aq (Hk (n % 10000))))).setCell ⟨w.heap.size + 1, 2, none⟩ (.int .i64 wh.toNat)) (w.heap.size + 1) (3) (Aq (Hk (n % 10000))) wh.toNat) := Lib.hid ((((HZ1.out.far hne 1 _).set0 _).set1 _).set2 _)
  have HG : Hid (Below w.heap.size w ((((w1.setCell ⟨w.heap.size + 1 + 1, 1, none⟩ (.string (Aq (Hk (n % 10000))))).setCell ⟨w.heap.size + 1, 0, none⟩ (.int .i64 (3))).setCell ⟨w.heap.size + 1, 1, none⟩ (.string (Aq (Hk (n % 10000))))).setCell ⟨w.heap.size + 1, 2, none⟩ (.int .i64 wh.toNat))) := Lib.hid ((((HB1.out.setCell (p := ⟨w.heap.size + 1 + 1, 1, none⟩) (by show _ <= _ + 1 + 1; omega) _).setCell (p := ⟨w.heap.size + 1, 0, none⟩) (Nat.le_succ _) _).setCell (p := ⟨w.heap.size + 1, 1, none⟩) (Nat.le_succ _) _).setCell (p := ⟨w.heap.size + 1, 2, none⟩) (Nat.le_succ _) _)
  generalize ((((w1.setCell ⟨w.heap.size + 1 + 1, 1, none⟩ (.string (Aq (Hk (n % 10000))))).setCell ⟨w.heap.size + 1, 0, none⟩ (.int .i64 (3))).setCell ⟨w.heap.size + 1, 1, none⟩ (.string (Aq (Hk (n % 10000))))).setCell ⟨w.heap.size + 1, 2, none⟩ (.int .i64 wh.toNat)) = w9 at HE HG |-
  have q := HE.out.cells
  exact bodyPost_ret (v := .agg #[.int .i64 (3), .string (Aq (Hk (n % 10000))), .int .i64 wh.toNat]) (by simp [results, Tryz.results25, go_sem, q.1, q.2.1, q.2.2]) rfl ⟨by rw [HV.out], HG.out⟩
theorem Ah5 (i : Nat) (h : i < 23) : Cm[i]? = some (.string (Aq (Cs.getD i []))) := by
  have := Xf i h
  rw [this]
  congr 2
  unfold Cc
  rw [List.getD_eq_getElem?_getD, List.getD_eq_getElem?_getD, List.getElem?_map, List.getElem?_eq_getElem (show i < Cs.length from h)]
  rfl
theorem Ahr (i : Nat) (h : i < 21) : Cq[i]? = some (.string (Aq (Bz.getD i []))) := by
  have := Xe i h
  rw [this]
  congr 2
  unfold Dc
  rw [List.getD_eq_getElem?_getD, List.getD_eq_getElem?_getD, List.getElem?_map, List.getElem?_eq_getElem (show i < Bz.length from h)]
  rfl
def X9 (w : World) (kd : Int) (X : ByteArray) (wh : Int) (w' : World) : Prop := Cw w' (w.heap.size + 1 + 1) kd X wh /\ Cw w' (w.heap.size + 1) 0 ⟨#[]⟩ 0 /\ Below w.heap.size w w'
set_option maxRecDepth 100000 in
set_option maxHeartbeats 4000000 in
theorem Ah1 (k wh : UInt8) (v : Value) (ls : List UInt8) (n : Nat) (w : World) (hk : k.toNat % 4 = 1) :
    Calls Tryz.prog 25 #[.agg #[.int .u8 k.toNat, .int .u8 wh.toNat, v, .int .u32 n]] w fun e w' => e = .returned (Kj k wh ls n).val /\ Below w.heap.size w w' := by
  obtain ⟨X, hX⟩ : ∃ X, Aq (Cs.getD (wh.toNat % 23) []) = X := ⟨_, rfl⟩
  have HV : Hid ((Kj k wh ls n).val = .agg #[.int .i64 2, .string X, .int .i64 wh.toNat]) := Lib.hid (by
    rw [<- hX]; unfold Kj Aap ZTok.val; simp [hk])
  have hwc := Ah5 (wh.toNat % 23) (by omega)
  rw [hX] at hwc
  have k1 : (k.toNat : Int) % 4 = 1 := by omega
  have k2 : (k.toNat : Int) < 256 := by have := k.toNat_lt; omega
  have k3 : (wh.toNat : Int) < 256 := by have := wh.toNat_lt; omega
  have k4 : ((wh.toNat : Int) % 23).toNat = wh.toNat % 23 := by omega
  have k5 : (0 : Int) <= (wh.toNat : Int) % 23 := by omega
  have k6 : (wh.toNat : Int) % 23 < 23 := by omega
  have k7 : (wh.toNat : Int).tmod 23 = (wh.toNat : Int) % 23 := Int.tmod_eq_emod_of_nonneg (by omega)
  have k8 : IntKind.i64.wrap (wh.toNat : Int) = (wh.toNat : Int) := IntWalk.i64_in _ (by omega)
  have k9 : IntKind.i64.wrap ((wh.toNat : Int) % 23) = (wh.toNat : Int) % 23 := IntWalk.i64_in _ (by omega)
  clear hk hX
  go_enter Tryz.func25, Tryz.ntmps25
  go_upto_block 0 with (fail)
  go_cut [] (fun w' => X9 w 2 X wh.toNat w')
  case first =>
    go_wp2_with fail
    refine E1 (F := fun w1 => w1.cell? ⟨w.heap.size, 1, none⟩ = some (.int .u8 wh.toNat) /\ X9 w 2 ⟨#[]⟩ wh.toNat w1) ⟨?_, A2 (by simp), At (A2 (by simp)), (((Below.refl _ _).alloc (Nat.le_refl _) _).alloc (by simp) _).alloc (by simp; omega) _⟩ ?_
    . exact C4 (C4 (World.cell?_alloc_at (hn := rfl) ..))
    rintro w1 ⟨hD, hT, hZ, hB⟩
    have HT := Lib.hid hT
    have HZ := Lib.hid hZ
    have HB := Lib.hid hB
    have c1 := hT.cells.2.1
    have c2 := hT.free.2.1
    have hlt := B8 hT
    clear hT hZ hB
    have hDs := Kg hD
    have hne : ¬ w.heap.size + 1 = w.heap.size + 1 + 1 := by omega
    have hb2 := ((Below.refl w1.heap.size w1).alloc (Nat.le_refl _) (.cells Cm 9)).alloc (by simp) (.cells Cm 9)
    have HB2 := Lib.hid hb2
    have s1 : ((w1.alloc (.cells Cm 9)).alloc (.cells Cm 9)).cell? ⟨w.heap.size + 1 + 1, 1, none⟩ = some (.string ⟨#[]⟩) := C4 (C4 c1)
    have s2 : ((w1.alloc (.cells Cm 9)).alloc (.cells Cm 9)).frozen? ⟨w.heap.size + 1 + 1, 1, none⟩ = false := (hb2.frozen hlt).trans c2
    have s3 : ((w1.alloc (.cells Cm 9)).alloc (.cells Cm 9)).cell? ⟨w1.heap.size, wh.toNat % 23, none⟩ = some (.string X) := C4 ((World.cell?_alloc_at (hn := rfl) ..).trans hwc)
    have n1 : ¬ w.heap.size + 1 + 1 = w1.heap.size := by omega
    have n2 : ¬ w.heap.size + 1 + 1 = w1.heap.size + 1 := by omega
    have n3 : ¬ w.heap.size = w1.heap.size := by omega
    have n4 : ¬ w.heap.size = w1.heap.size + 1 := by omega
    clear hb2
    go_region_with ((go_at_call 58; refine (Dj _).mono ?_; rintro e w' ⟨rfl, rfl⟩))
    all_goals clear s1 s2 s3 n1 n2 n3 n4 c1 c2
    all_goals go_wp2_with fail
    all_goals go_meet
    all_goals exact ⟨(HT.out.below HB2.out).set1 X, (HZ.out.below HB2.out).far hne 1 (.string X), ((HB.out.trans (HB2.out.mono HB.out.size)).setCell (p := ⟨w.heap.size + 1 + 1, 1, none⟩) (by show _ <= _ + 1 + 1; omega) (.string X)).drew⟩
  case rest =>
    obtain ⟨hT9, hZ9, hB9⟩ := hcut
    have HZ9 := Lib.hid hZ9
    have HB9 := Lib.hid hB9
    have c5 := hT9.cells
    have c6 := hZ9.cells
    have c7 := hZ9.free
    clear hT9 hZ9 hB9
    go_wp2
    have HE : Hid (Cw (((wc.setCell ⟨w.heap.size + 1, 0, none⟩ (.int .i64 2)).setCell ⟨w.heap.size + 1, 1, none⟩ (.string X)).setCell ⟨w.heap.size + 1, 2, none⟩ (.int .i64 wh.toNat)) (w.heap.size + 1) 2 X wh.toNat) := Lib.hid (((HZ9.out.set0 _).set1 _).set2 _)
    have HG : Hid (Below w.heap.size w (((wc.setCell ⟨w.heap.size + 1, 0, none⟩ (.int .i64 2)).setCell ⟨w.heap.size + 1, 1, none⟩ (.string X)).setCell ⟨w.heap.size + 1, 2, none⟩ (.int .i64 wh.toNat))) := Lib.hid (((HB9.out.setCell (p := ⟨w.heap.size + 1, 0, none⟩) (Nat.le_succ _) _).setCell (p := ⟨w.heap.size + 1, 1, none⟩) (Nat.le_succ _) _).setCell (p := ⟨w.heap.size + 1, 2, none⟩) (Nat.le_succ _) _)
    generalize (((wc.setCell ⟨w.heap.size + 1, 0, none⟩ (.int .i64 2)).setCell ⟨w.heap.size + 1, 1, none⟩ (.string X)).setCell ⟨w.heap.size + 1, 2, none⟩ (.int .i64 wh.toNat)) = w9 at HE HG |-
    have q := HE.out.cells
    exact bodyPost_ret (v := .agg #[.int .i64 2, .string X, .int .i64 wh.toNat]) (by simp [results, Tryz.results25, go_sem, q.1, q.2.1, q.2.2]) rfl ⟨by rw [HV.out], HG.out⟩
set_option maxRecDepth 100000 in
set_option maxHeartbeats 4000000 in
theorem Ah0 (k wh : UInt8) (v : Value) (ls : List UInt8) (n : Nat) (w : World) (hk : k.toNat % 4 = 3) :
    Calls Tryz.prog 25 #[.agg #[.int .u8 k.toNat, .int .u8 wh.toNat, v, .int .u32 n]] w fun e w' => e = .returned (Kj k wh ls n).val /\ Below w.heap.size w w' := by
  obtain ⟨X, hX⟩ : ∃ X, Aq (Bz.getD (wh.toNat % 21) []) = X := ⟨_, rfl⟩
  have HV : Hid ((Kj k wh ls n).val = .agg #[.int .i64 4, .string X, .int .i64 wh.toNat]) := Lib.hid (by
    rw [<- hX]; unfold Kj Aap ZTok.val; simp [hk])
  have hwc := Ahr (wh.toNat % 21) (by omega)
  rw [hX] at hwc
  have k1 : (k.toNat : Int) % 4 = 3 := by omega
  have k2 : (k.toNat : Int) < 256 := by have := k.toNat_lt; omega
  have k3 : (wh.toNat : Int) < 256 := by have := wh.toNat_lt; omega
  have k4 : ((wh.toNat : Int) % 21).toNat = wh.toNat % 21 := by omega
  have k5 : (0 : Int) <= (wh.toNat : Int) % 21 := by omega
  have k6 : (wh.toNat : Int) % 21 < 21 := by omega
  have k7 : (wh.toNat : Int).tmod 21 = (wh.toNat : Int) % 21 := Int.tmod_eq_emod_of_nonneg (by omega)
  have k8 : IntKind.i64.wrap (wh.toNat : Int) = (wh.toNat : Int) := IntWalk.i64_in _ (by omega)
  have k9 : IntKind.i64.wrap ((wh.toNat : Int) % 21) = (wh.toNat : Int) % 21 := IntWalk.i64_in _ (by omega)
  clear hk hX
  go_enter Tryz.func25, Tryz.ntmps25
  go_upto_block 0 with (fail)
  go_cut [] (fun w' => X9 w 4 X wh.toNat w')
  case first =>
    go_wp2_with fail
    refine E1 (F := fun w1 => w1.cell? ⟨w.heap.size, 1, none⟩ = some (.int .u8 wh.toNat) /\ X9 w 4 ⟨#[]⟩ wh.toNat w1) ⟨?_, A2 (by simp), At (A2 (by simp)), (((Below.refl _ _).alloc (Nat.le_refl _) _).alloc (by simp) _).alloc (by simp; omega) _⟩ ?_
    . exact C4 (C4 (World.cell?_alloc_at (hn := rfl) ..))
    rintro w1 ⟨hD, hT, hZ, hB⟩
    have HT := Lib.hid hT
    have HZ := Lib.hid hZ
    have HB := Lib.hid hB
    have c1 := hT.cells.2.1
    have c2 := hT.free.2.1
    have hlt := B8 hT
    clear hT hZ hB
    have hDs := Kg hD
    have hne : ¬ w.heap.size + 1 = w.heap.size + 1 + 1 := by omega
    have hb2 := ((Below.refl w1.heap.size w1).alloc (Nat.le_refl _) (.cells Cq 9)).alloc (by simp) (.cells Cq 9)
    have HB2 := Lib.hid hb2
    have s1 : ((w1.alloc (.cells Cq 9)).alloc (.cells Cq 9)).cell? ⟨w.heap.size + 1 + 1, 1, none⟩ = some (.string ⟨#[]⟩) := C4 (C4 c1)
    have s2 : ((w1.alloc (.cells Cq 9)).alloc (.cells Cq 9)).frozen? ⟨w.heap.size + 1 + 1, 1, none⟩ = false := (hb2.frozen hlt).trans c2
    have s3 : ((w1.alloc (.cells Cq 9)).alloc (.cells Cq 9)).cell? ⟨w1.heap.size, wh.toNat % 21, none⟩ = some (.string X) := C4 ((World.cell?_alloc_at (hn := rfl) ..).trans hwc)
    have n1 : ¬ w.heap.size + 1 + 1 = w1.heap.size := by omega
    have n2 : ¬ w.heap.size + 1 + 1 = w1.heap.size + 1 := by omega
    have n3 : ¬ w.heap.size = w1.heap.size := by omega
    have n4 : ¬ w.heap.size = w1.heap.size + 1 := by omega
    clear hb2
    go_region_with ((go_at_call 59; refine (Gi _).mono ?_; rintro e w' ⟨rfl, rfl⟩))
    all_goals clear s1 s2 s3 n1 n2 n3 n4 c1 c2
    all_goals go_wp2_with fail
    all_goals go_meet
    all_goals exact ⟨(HT.out.below HB2.out).set1 X, (HZ.out.below HB2.out).far hne 1 (.string X), ((HB.out.trans (HB2.out.mono HB.out.size)).setCell (p := ⟨w.heap.size + 1 + 1, 1, none⟩) (by show _ <= _ + 1 + 1; omega) (.string X)).drew⟩
  case rest =>
    obtain ⟨hT9, hZ9, hB9⟩ := hcut
    have HZ9 := Lib.hid hZ9
    have HB9 := Lib.hid hB9
    have c5 := hT9.cells
    have c6 := hZ9.cells
    have c7 := hZ9.free
    clear hT9 hZ9 hB9
    go_wp2
    have HE : Hid (Cw (((wc.setCell ⟨w.heap.size + 1, 0, none⟩ (.int .i64 4)).setCell ⟨w.heap.size + 1, 1, none⟩ (.string X)).setCell ⟨w.heap.size + 1, 2, none⟩ (.int .i64 wh.toNat)) (w.heap.size + 1) 4 X wh.toNat) := Lib.hid (((HZ9.out.set0 _).set1 _).set2 _)
    have HG : Hid (Below w.heap.size w (((wc.setCell ⟨w.heap.size + 1, 0, none⟩ (.int .i64 4)).setCell ⟨w.heap.size + 1, 1, none⟩ (.string X)).setCell ⟨w.heap.size + 1, 2, none⟩ (.int .i64 wh.toNat))) := Lib.hid (((HB9.out.setCell (p := ⟨w.heap.size + 1, 0, none⟩) (Nat.le_succ _) _).setCell (p := ⟨w.heap.size + 1, 1, none⟩) (Nat.le_succ _) _).setCell (p := ⟨w.heap.size + 1, 2, none⟩) (Nat.le_succ _) _)
    generalize (((wc.setCell ⟨w.heap.size + 1, 0, none⟩ (.int .i64 4)).setCell ⟨w.heap.size + 1, 1, none⟩ (.string X)).setCell ⟨w.heap.size + 1, 2, none⟩ (.int .i64 wh.toNat)) = w9 at HE HG |-
    have q := HE.out.cells
    exact bodyPost_ret (v := .agg #[.int .i64 4, .string X, .int .i64 wh.toNat]) (by simp [results, Tryz.results25, go_sem, q.1, q.2.1, q.2.2]) rfl ⟨by rw [HV.out], HG.out⟩
end Go.Proofs.YtiledamgmppcmaaGreatDoor
namespace Go.Proofs.YtiledamgmppcmaaGreatDoor
open Go.RowKit
def nmT (ls : List UInt8) (j : Nat) : List UInt8 := 120 :: (ls.take j).map letC
theorem nmT_succ {ls : List UInt8} {j : Nat} {c : UInt8} (h : ls[j]? = some c) : nmT ls (j + 1) = nmT ls j ++ [letC c] := by
  obtain ⟨hlt, rfl⟩ := List.getElem?_eq_some_iff.1 h
  unfold nmT
  rw [List.take_succ_eq_append_getElem hlt, List.map_append]; rfl
theorem Z4 (a b : List UInt8) : Aq a ++ Aq b = Aq (a ++ b) := by unfold Aq; apply ByteArray.ext; simp
def TokNRel (w : World) (v : Value) (ls : List UInt8) (wh : Int) (i : Value) (wr : World) : Prop :=
  ∃ j : Nat, i = .int .i64 j /\ j <= ls.length /\ j <= 11 /\ wr.cell? ⟨w.heap.size, 2, none⟩ = some v /\ X9 w 1 (Aq (nmT ls j)) wh wr
set_option maxRecDepth 100000 in
set_option maxHeartbeats 4000000 in
theorem Ahz (k wh : UInt8) (v : Value) (ls : List UInt8) (n : Nat) (w : World) (hv : ListS u8v w v ls) (hk : k.toNat % 4 = 0) :
    Calls Tryz.prog 25 #[.agg #[.int .u8 k.toNat, .int .u8 wh.toNat, v, .int .u32 n]] w fun e w' => e = .returned (Kj k wh ls n).val /\ Below w.heap.size w w' := by
  obtain ⟨p, cap, rfl, h1, h2, h3⟩ := hv
  obtain ⟨X, hX⟩ : ∃ X, Aq (nmT ls 11) = X := ⟨_, rfl⟩
  have HV : Hid ((Kj k wh ls n).val = .agg #[.int .i64 1, .string X, .int .i64 wh.toNat]) := Lib.hid (by
    rw [<- hX]; unfold Kj Aap ZTok.val nmT; simp [hk])
  have k1 : (k.toNat : Int) % 4 = 0 := by omega
  have k2 : (k.toNat : Int) < 256 := by have := k.toNat_lt; omega
  have k3 : (wh.toNat : Int) < 256 := by have := wh.toNat_lt; omega
  have H3 := Lib.hid h3
  have HX := Lib.hid hX
  clear hk hX h3
  go_enter Tryz.func25, Tryz.ntmps25
  go_upto_block 0 with (fail)
  go_cut [] (fun w' => X9 w 1 X wh.toNat w')
  case first =>
    refine E1 (F := fun w1 => w1.cell? ⟨w.heap.size, 2, none⟩ = some (.slice p ls.length cap) /\ X9 w 1 ⟨#[]⟩ wh.toNat w1) ⟨?_, A2 (by simp), At (A2 (by simp)), (((Below.refl _ _).alloc (Nat.le_refl _) _).alloc (by simp) _).alloc (by simp; omega) _⟩ ?_
    . exact C4 (C4 (World.cell?_alloc_at (hn := rfl) ..))
    rintro w1 ⟨hD, hT, hZ, hB⟩
    have HT := Lib.hid hT
    have HZ := Lib.hid hZ
    have HB := Lib.hid hB
    have HD := Lib.hid hD
    have c0 := hT.cells.1
    have c1 := hT.cells.2.1
    have c2 := hT.free.2.1
    have hlt := B8 hT
    have hne : ¬ w.heap.size + 1 = w.heap.size + 1 + 1 := by omega
    clear hT hZ hB hD
    go_wp2
    go_loopw [4] (fun i wr => TokNRel w (.slice p ls.length cap) ls wh.toNat i wr) (fun i _ => ls.length - (intOf i).toNat)
    case atStart =>
      exact ⟨0, rfl, Nat.zero_le _, by omega, (World.cell?_setCell_other _ _ _ _ (by intro e; simp at e)).trans HD.out, HT.out.set1 _, HZ.out.far hne _ _, HB.out.setCell (p := ⟨w.heap.size + 1 + 1, 1, none⟩) (by show _ <= _ + 1 + 1; omega) _⟩
    case round =>
      obtain ⟨j, rfl, hj1, hj2, hD, hT, hZ, hB⟩ := hrel
      have HTr := Lib.hid hT
      have HZr := Lib.hid hZ
      have HBr := Lib.hid hB
      have HDr := Lib.hid hD
      have d1 := hT.cells.2.1
      have d2 := hT.free.2.1
      have hltr := B8 hT
      clear hT hZ hB hD c0 c1 c2
      by_cases hmore : j < ls.length /\ j < 11
      . obtain ⟨hm1, hm2⟩ := hmore
        have hne3 : ls ≠ [] := by rintro rfl; simp at hm1
        obtain ⟨b, o, rfl, hc⟩ := H3.out hne3
        obtain ⟨c, hcc⟩ : ∃ c, ls[j]? = some c := ⟨_, List.getElem?_eq_getElem hm1⟩
        have q0 : wr.cell? ⟨b, o + j, none⟩ = some (.int .u8 c.toNat) := Ae HBr.out (hc j c hcc)
        have HCC := Lib.hid hcc
        have e0 := HDr.out
        have g1 : (c.toNat : Int).tmod 10 = (c.toNat : Int) % 10 := Int.tmod_eq_emod_of_nonneg (by omega)
        have g2 : IntKind.u8.wrap ((c.toNat : Int) % 10) = (c.toNat : Int) % 10 := IntWalk.u8_in _ (by omega)
        have g3 : IntKind.u8.wrap ((c.toNat : Int) % 10 + 1) = (c.toNat : Int) % 10 + 1 := IntWalk.u8_in _ (by omega)
        have g4 : ((c.toNat : Int) % 10).toNat = c.toNat % 10 := by omega
        have g5 : ((c.toNat : Int) % 10 + 1).toNat = c.toNat % 10 + 1 := by omega
        have g6 : (0 : Int) <= (c.toNat : Int) % 10 := by omega
        have g7 : (c.toNat : Int) % 10 + 1 <= 10 := by omega
        have g8 : (c.toNat : Int) % 10 <= (c.toNat : Int) % 10 + 1 := by omega
        have HEX := Lib.hid (let_ext c)
        have hsz : ((Aq (nmT ls j)).size : Int) <= 100 := by simp [Aq, ByteArray.size, nmT]; omega
        clear hc hcc
        go_wp2_with fail
        go_region
        go_wp2_with fail
        clear g1 g2 g3 g4 g5 q0 e0
        go_roundw
        case rel =>
          refine ⟨j + 1, by go_num, by omega, by omega, (World.cell?_setCell_other _ _ _ _ (by intro e; simp at e)).trans HDr.out, ?_, HZr.out.far hne _ _, (HBr.out.setCell (p := ⟨w.heap.size + 1 + 1, 1, none⟩) (by show _ <= _ + 1 + 1; omega) _).drew⟩
          rw [nmT_succ HCC.out, <- Z4, <- HEX.out]
          exact HTr.out.set1 _
        case measure => simp [intOf]; omega
      . have HXJ : Hid (Aq (nmT ls j) = X) := Lib.hid (by
          rw [<- HX.out]
          unfold nmT
          congr 3
          rw [List.take_eq_take_iff]
          omega)
        have e0 := HDr.out
        by_cases hm1 : j < ls.length
        . have hm2 : 11 <= j := by omega
          go_wp2_with fail
          go_meet
          case rel => exact ⟨by rw [<- HXJ.out]; exact HTr.out, HZr.out, HBr.out⟩
        . have hm2 : ls.length <= j := by omega
          go_wp2_with fail
          go_meet
          case rel => exact ⟨by rw [<- HXJ.out]; exact HTr.out, HZr.out, HBr.out⟩
  case rest =>
    obtain ⟨hT9, hZ9, hB9⟩ := hcut
    have HZ9 := Lib.hid hZ9
    have HB9 := Lib.hid hB9
    have c5 := hT9.cells
    have c6 := hZ9.cells
    have c7 := hZ9.free
    clear hT9 hZ9 hB9
    go_wp2
    have HE : Hid (Cw (((wc.setCell ⟨w.heap.size + 1, 0, none⟩ (.int .i64 1)).setCell ⟨w.heap.size + 1, 1, none⟩ (.string X)).setCell ⟨w.heap.size + 1, 2, none⟩ (.int .i64 wh.toNat)) (w.heap.size + 1) 1 X wh.toNat) := Lib.hid (((HZ9.out.set0 _).set1 _).set2 _)
    have HG : Hid (Below w.heap.size w (((wc.setCell ⟨w.heap.size + 1, 0, none⟩ (.int .i64 1)).setCell ⟨w.heap.size + 1, 1, none⟩ (.string X)).setCell ⟨w.heap.size + 1, 2, none⟩ (.int .i64 wh.toNat))) := Lib.hid (((HB9.out.setCell (p := ⟨w.heap.size + 1, 0, none⟩) (Nat.le_succ _) _).setCell (p := ⟨w.heap.size + 1, 1, none⟩) (Nat.le_succ _) _).setCell (p := ⟨w.heap.size + 1, 2, none⟩) (Nat.le_succ _) _)
    generalize (((wc.setCell ⟨w.heap.size + 1, 0, none⟩ (.int .i64 1)).setCell ⟨w.heap.size + 1, 1, none⟩ (.string X)).setCell ⟨w.heap.size + 1, 2, none⟩ (.int .i64 wh.toNat)) = w9 at HE HG |-
    have q := HE.out.cells
    exact bodyPost_ret (v := .agg #[.int .i64 1, .string X, .int .i64 wh.toNat]) (by simp [results, Tryz.results25, go_sem, q.1, q.2.1, q.2.2]) rfl ⟨by rw [HV.out], HG.out⟩
theorem Ao0 (k wh : UInt8) (v : Value) (ls : List UInt8) (n : Nat) (w : World) (hv : ListS u8v w v ls) (hn : n < 4294967296) :
    Calls Tryz.prog 25 #[.agg #[.int .u8 k.toNat, .int .u8 wh.toNat, v, .int .u32 n]] w fun e w' => e = .returned (Kj k wh ls n).val /\ Below w.heap.size w w' := by
  have h : k.toNat % 4 = 0 \/ k.toNat % 4 = 1 \/ k.toNat % 4 = 2 \/ k.toNat % 4 = 3 := by omega
  rcases h with h | h | h | h
  . exact Ahz k wh v ls n w hv h
  . exact Ah1 k wh v ls n w h
  . exact Afz k wh v ls n w hv h hn
  . exact Ah0 k wh v ls n w h
theorem Ux (n : Nat) : (Hk n).all Bi = true := by
  have hd : ∀ m, m < 10 -> Bi (UInt8.ofNat (48 + m)) = true := by decide +kernel
  induction n using Nat.strongRecOn with
  | _ n ih =>
    by_cases h : n < 10
    . rw [Dq h, List.all_cons, hd n h]; rfl
    . rw [En h, List.all_append, ih (n / 10) (by omega), List.all_cons, hd (n % 10) (by omega)]; rfl
theorem Rb (n : Nat) (h1 : 1 <= n) : (Hk n).head? ≠ some 48 := by
  have hd : ∀ m, m < 10 -> 1 <= m -> UInt8.ofNat (48 + m) ≠ 48 := by decide +kernel
  induction n using Nat.strongRecOn with
  | _ n ih =>
    by_cases h : n < 10
    . rw [Dq h]; simpa using hd n h h1
    . have h2 := ih (n / 10) (by omega) (by omega)
      have h3 := (Mw (n / 10)).1
      rw [En h]
      cases hx : Hk (n / 10) with
      | nil => rw [hx] at h3; simp at h3
      | cons c r => rw [hx] at h2; simpa using h2
theorem Aec (n : Nat) (h : n < 10000) : (Hk n).length <= 4 := by
  have h1 : ∀ n, n < 10 -> (Hk n).length = 1 := fun n h => by rw [Dq h]; rfl
  have h2 : ∀ n, n < 100 -> (Hk n).length <= 2 := fun n h => by
    by_cases hs : n < 10
    . rw [h1 n hs]; omega
    . rw [En hs, List.length_append, h1 _ (by omega)]; simp
  have h3 : ∀ n, n < 1000 -> (Hk n).length <= 3 := fun n h => by
    by_cases hs : n < 10
    . rw [h1 n hs]; omega
    . rw [En hs, List.length_append]; have := h2 (n / 10) (by omega); simp; omega
  by_cases hs : n < 10
  . rw [h1 n hs]; omega
  . rw [En hs, List.length_append]; have := h3 (n / 10) (by omega); simp; omega
theorem Lt (n : Nat) (h : n < 10000) : Bl (Hk n) = true := by
  unfold Bl
  rw [Ux]
  rcases Nat.eq_zero_or_pos n with rfl | hp
  . rw [Dq (by omega)]; decide
  . have h2 := Rb n hp
    have h3 := Aec n h
    have h4 := (Mw n).1
    have e1 : (Hk n).isEmpty = false := by cases hx : Hk n with | nil => rw [hx] at h4; simp at h4 | cons => rfl
    simp [e1, h3]
    right
    simpa using h2
theorem name_x (l : List UInt8) (hl : l.length <= 11) : Ei (120 :: l.map letC) = true := by
  have hp : ∀ m, m < 10 -> B9 (setC.getD m 0) = true := by decide +kernel
  have hall : (l.map letC).all B9 = true := by
    rw [List.all_map, List.all_eq_true]
    intro c _
    exact hp _ (by omega)
  have hw : Oi Cs (120 :: l.map letC) = false := by
    have key : (Cs.all fun x => x.head? != some 120) = true := by decide +kernel
    cases hm : Oi Cs (120 :: l.map letC)
    . rfl
    . have := List.all_eq_true.1 key _ (Eo.1 hm)
      simp at this
  unfold Ei Qx
  rw [List.all_cons, hall, hw]
  have e1 : B9 120 = true := by decide
  have e2 : B7 120 = true := by decide
  simp [e1, e2]; omega
theorem Ago (k wh : UInt8) (ls : List UInt8) (n : Nat) : Ay (Kj k wh ls n).kind (Kj k wh ls n).text = true := by
  have hw : ∀ i, i < 23 -> Oi Cs (Cs.getD i []) = true := by decide +kernel
  have hs : ∀ i, i < 21 -> Oi Bz (Bz.getD i []) = true := by decide +kernel
  have h : k.toNat % 4 = 0 \/ k.toNat % 4 = 1 \/ k.toNat % 4 = 2 \/ k.toNat % 4 = 3 := by omega
  unfold Kj Aap
  rcases h with h | h | h | h
  . simp only [h]
    show Ay 1 (120 :: (ls.take 11).map letC) = true
    exact name_x _ (by simp; omega)
  . simp only [h]
    exact hw _ (by omega)
  . simp only [h]
    exact Lt _ (by omega)
  . simp only [h]
    exact hs _ (by omega)
theorem Hg {kd : Int} {x : List UInt8} (h : Ay kd x = true) : x.length <= 12 := by
  have hw : (Cs.all fun x => decide (x.length <= 12)) = true := by decide +kernel
  have hs : (Bz.all fun x => decide (x.length <= 12)) = true := by decide +kernel
  unfold Ay at h
  split at h
  . simp only [Ei, Bool.and_eq_true, decide_eq_true_eq] at h; exact h.1.2
  . split at h
    . simpa using List.all_eq_true.1 hw _ (Eo.1 h)
    . split at h
      . simp only [Bl, Bool.and_eq_true, Bool.or_eq_true, decide_eq_true_eq, beq_iff_eq] at h
        rcases h.2 with h | h
        . rw [h]; simp
        . omega
      . split at h
        . simpa using List.all_eq_true.1 hs _ (Eo.1 h)
        . cases h
end Go.Proofs.YtiledamgmppcmaaGreatDoor
namespace Go.Proofs.YtiledamgmppcmaaGreatDoor
open Go.RowKit
theorem Fy : ∀ (n f : Nat) (l : List UInt8) (acc : List Tok), (∀ t ∈ acc, Ay t.kind t.text = true) -> ∀ t ∈ (Cv n f l acc).1, Ay t.kind t.text = true
  | _, 0, _, _, h => h
  | n, f + 1, l, acc, h => by
    unfold Cv
    split
    . exact h
    . split
      . simp
      . rename_i h2
        split
        . simp
        . refine Fy n f _ _ fun t ht => ?_
          rcases List.mem_append.1 ht with ht | ht
          . exact h t ht
          . rw [List.mem_singleton] at ht; subst ht
            simpa using h2
theorem J3 (l : List UInt8) : ∀ t ∈ (Cn l).1, Ay t.kind t.text = true := by
  unfold Cn
  split
  . simp
  . exact Fy _ _ _ _ (by simp)
mutual
theorem Hh : ∀ x : Ex, x.same x = true
  | .mk o n s l => by rw [Ex.same]; simp [Hi l]
theorem Hi : ∀ l : List Ex, Ly l l = true
  | [] => rfl
  | x :: l => by rw [Ly, Hh x, Hi l]; rfl
end
end Go.Proofs.YtiledamgmppcmaaGreatDoor
namespace Go.Proofs.YtiledamgmppcmaaGreatDoor
open Go.RowKit
def Alk (s : List UInt8) : Prop := ∀ y, Bb false (s ++ y) = Bb false y
def Sep (s : List UInt8) : Prop := Alk s /\ ∃ c t, s = c :: t /\ (c = 32 \/ c = 10 \/ c = 35)
theorem U0 : Alk [] := fun _ => rfl
theorem Sep.edge {s : List UInt8} (h : Sep s) (y : List UInt8) : Tm (s ++ y) := by
  obtain ⟨_, c, t, rfl, hc⟩ := h
  exact .inr ⟨c, t ++ y, rfl, hc⟩
def pad (l : List (List UInt8 × ZTok)) : List UInt8 := l.flatMap fun x => x.1 ++ x.2.text
def toks (p : Nat) : List (List UInt8 × ZTok) -> List Tok
  | [] => []
  | x :: r => ⟨x.2.kind, x.2.text, p + x.1.length⟩ :: toks (p + x.1.length + x.2.text.length) r
theorem Gr (x : List UInt8 × ZTok) (r : List (List UInt8 × ZTok)) : pad (x :: r) = x.1 ++ (x.2.text ++ pad r) := by simp [pad]
theorem N3 (p : Nat) (l : List (List UInt8 × ZTok)) : (toks p l).length = l.length := by
  induction l generalizing p with
  | nil => rfl
  | cons y r ih => simp [toks, ih]
theorem Sh (p : Nat) (l : List (List UInt8 × ZTok)) : (toks p l).map (fun t => (t.kind, t.text)) = l.map (fun x => (x.2.kind, x.2.text)) := by
  induction l generalizing p with
  | nil => rfl
  | cons y r ih => simp [toks, ih]
def Hm : Bool -> List (List UInt8 × ZTok) -> Prop
  | _, [] => True
  | b, x :: r => Alk x.1 /\ (b = true -> Sep x.1) /\ Ay x.2.kind x.2.text = true /\ Hm true r
theorem Hm.edge {r : List (List UInt8 × ZTok)} (h : Hm true r) {tl : List UInt8} (ht : Tm tl) : Tm (pad r ++ tl) := by
  cases r with
  | nil => exact ht
  | cons x r => rw [Gr, List.append_assoc]; exact (h.2.1 rfl).edge _
theorem R4 {n : Nat} (items : List (List UInt8 × ZTok)) (b : Bool) (tl : List UInt8) (acc : List Tok) (f p : Nat) (hn : n = p + (pad items ++ tl).length) (hp : Hm b items) (ht : Tm tl) (ha : acc.length + items.length <= 2000) :
    Cv n (f + items.length) (pad items ++ tl) acc = Cv n f tl (acc ++ toks p items) := by
  induction items generalizing b acc p with
  | nil => simp [pad, toks]
  | cons x r ih =>
    obtain ⟨h1, h2, h3, h4⟩ := hp
    have hr : Tm (pad r ++ tl) := h4.edge ht
    have hs : Bb false (x.1 ++ (x.2.text ++ (pad r ++ tl))) = x.2.text ++ (pad r ++ tl) := by rw [h1, J9 h3]
    rw [Gr] at hn |-
    simp only [List.length_cons] at ha
    rw [show x.1 ++ (x.2.text ++ pad r) ++ tl = x.1 ++ (x.2.text ++ (pad r ++ tl)) by simp, List.length_cons, <- Nat.add_assoc, R5 hs h3 hr (by omega)]
    have hn' : n = p + x.1.length + x.2.text.length + (pad r ++ tl).length := by rw [hn]; simp; omega
    rw [ih true _ (p + x.1.length + x.2.text.length) hn' h4 (by simp; omega)]
    rw [show n - (x.2.text ++ (pad r ++ tl)).length = p + x.1.length by simp only [List.length_append] at hn' |-; omega]
    simp [toks]
theorem Po {b : Bool} {items : List (List UInt8 × ZTok)} (h : Hm b items) : items.length <= (pad items).length := by
  induction items generalizing b with
  | nil => simp
  | cons x r ih =>
    obtain ⟨_, _, h3, h4⟩ := h
    have := ih h4
    have h5 := Ek h3
    have : 1 <= x.2.text.length := by cases hx : x.2.text with | nil => exact absurd hx h5 | cons => simp
    rw [Gr]; simp; omega
theorem Nz {b : Bool} {items : List (List UInt8 × ZTok)} {tl : List UInt8} (hp : Hm b items) (ht : Tm tl) (hs : Bb false tl = []) (h1 : items.length <= 2000) (h2 : (pad items ++ tl).length <= 20000) :
    Cn (pad items ++ tl) = (toks 0 items, 0, 0) := by
  unfold Cn
  rw [if_neg (by omega)]
  have h3 := Po hp
  obtain ⟨f, hf⟩ : ∃ f, (pad items ++ tl).length + 1 = f + 1 + items.length := ⟨(pad items ++ tl).length - items.length, by simp only [List.length_append]; omega⟩
  rw [hf, R4 items b tl [] (f + 1) 0 (by omega) hp ht (by simpa using h1), <- Gj, hs, Pv]
  simp
def Ed : List ZTok -> List (List UInt8 × ZTok)
  | [] => []
  | t :: r => ([], t) :: r.map fun t => ([32], t)
theorem Xd : Sep [32] := ⟨fun y => by simp [Bb], 32, [], rfl, .inl rfl⟩
theorem Hc (l : List ZTok) : pad (Ed l) = Lib.join (l.map (·.text)) [32] := by
  cases l with
  | nil => rfl
  | cons t r =>
    rw [List.map_cons, Lib.join_cons]
    simp only [Ed, Gr, List.nil_append]
    congr 1
    simp [pad, Lib.joinTail, List.flatMap_map, List.flatMap]
    rfl
theorem Nr {l : List ZTok} (h : ∀ t ∈ l, Ay t.kind t.text = true) : Hm true (l.map fun t => ([32], t)) := by
  induction l with
  | nil => trivial
  | cons t r ih => exact ⟨Xd.1, fun _ => Xd, h t (List.mem_cons_self ..), ih (fun y hy => h y (List.mem_cons_of_mem _ hy))⟩
theorem K6 {l : List ZTok} (h : ∀ t ∈ l, Ay t.kind t.text = true) : Hm false (Ed l) := by
  cases l with
  | nil => trivial
  | cons t r => exact ⟨U0, fun h => (by cases h), h t (List.mem_cons_self ..), Nr (fun y hy => h y (List.mem_cons_of_mem _ hy))⟩
theorem Ka (l : List ZTok) : (Ed l).map (·.2) = l := by
  cases l with
  | nil => rfl
  | cons t r => simp [Ed, Function.comp_def]
theorem Gt (l : List ZTok) : (Ed l).length = l.length := by
  have := congrArg List.length (Ka l)
  simpa using this
theorem R3 {l : List ZTok} (h : ∀ t ∈ l, Ay t.kind t.text = true) (h1 : l.length <= 2000) (h2 : (Lib.join (l.map (·.text)) [32]).length <= 20000) :
    Cn (Lib.join (l.map (·.text)) [32]) = (toks 0 (Ed l), 0, 0) := by
  have := Nz (tl := []) (K6 h) (.inl rfl) rfl (by rw [Gt]; exact h1) (by rw [List.append_nil, Hc]; exact h2)
  rwa [List.append_nil, Hc] at this
theorem N0 (l : List ZTok) : ((toks 0 (Ed l)).map Tok.z).map (fun t => (t.kind, t.text)) = l.map (fun t => (t.kind, t.text)) := by
  have h := Sh 0 (Ed l)
  have h2 := congrArg (List.map fun t : ZTok => (t.kind, t.text)) (Ka l)
  simp only [List.map_map] at h2 |-
  rw [<- h2]
  exact h
end Go.Proofs.YtiledamgmppcmaaGreatDoor
namespace Go.Proofs.YtiledamgmppcmaaGreatDoor
open Go.RowKit
inductive Good : Ex -> Prop
  | num (n : Int) : 0 <= n -> n <= 9999 -> Good (.mk 1 n ⟨#[]⟩ [])
  | name (s : ByteArray) : Ei s.data.toList = true -> Good (.mk 2 0 s [])
  | yes : Good (nd 3 [])
  | no : Good (nd 4 [])
  | neg (a : Ex) : Good a -> Good (nd 5 [a])
  | not (a : Ex) : Good a -> Good (nd 6 [a])
  | bin (op : Int) (a b : Ex) : 7 <= op -> op <= 18 -> Good a -> Good b -> Good (nd op [a, b])
  | ite (a b c : Ex) : Good a -> Good b -> Good c -> Good (nd 19 [a, b, c])
theorem C9 {s : ByteArray} (h : s.size = 0) : s = ⟨#[]⟩ := by
  apply ByteArray.ext; apply Array.eq_empty_of_size_eq_zero; exact h
theorem Kv {l : List UInt8} (h : B5 1 l 0 = 0) : Ei l = true := by
  unfold B5 at h
  split at h
  . omega
  . rename_i hc
    simp only [not_or] at hc
    have h1 : Ay 1 l = true := by simpa using hc.2.2
    exact h1
theorem Ng {op : Int} {n : Nat} (h : (n : Int) = Fl op) : (op = 1 \/ op = 2 \/ op = 3 \/ op = 4) /\ n = 0 \/ (op = 5 \/ op = 6) /\ n = 1 \/ (7 <= op /\ op <= 18) /\ n = 2 \/ op = 19 /\ n = 3 := by
  have h' : (n : Int) = Eu op := h
  unfold Eu at h'
  repeat' split at h'
  all_goals omega
mutual
theorem Ow : ∀ (x : Ex) (left d k : Nat), vis left d x = some k -> Good x
  | .mk o n s l, left, d, k, h => by
    rw [vis] at h
    split at h
    . simp at h
    . rename_i hc
      simp only [not_or] at hc
      have hp : Cl (.mk o n s l) = true := by simpa using hc.2.2
      simp only [Cl, Bool.and_eq_true, Bool.or_eq_true, Ex.args, Ex.op, Ex.n, Ex.name] at hp
      obtain ⟨⟨⟨⟨h1, h2⟩, h3⟩, h4⟩, h5⟩ := hp
      have h1 := of_decide_eq_true h1
      have h2 := of_decide_eq_true h2
      have h3 := of_decide_eq_true h3
      have h4 : n = 0 \/ o = 1 := h4.imp (fun h => of_decide_eq_true h) (fun h => of_decide_eq_true h)
      have hl := Ml l _ _ _ h
      rcases Ng h1 with ⟨h6, h7⟩ | ⟨h6, h7⟩ | ⟨h6, h7⟩ | ⟨h6, h7⟩
      . have e : l = [] := List.eq_nil_of_length_eq_zero h7
        subst e
        rcases h6 with rfl | rfl | rfl | rfl
        . have := C9 (s := s) (of_decide_eq_true (show decide (s.size = 0) = true from h5))
          subst this
          exact .num n (of_decide_eq_true ‹decide (0 <= n) = true›) (of_decide_eq_true ‹decide (n <= 9999) = true›)
        . have : n = 0 := by rcases h4 with h4 | h4 <;> omega
          subst this
          exact .name s (Kv (of_decide_eq_true (show decide (B5 1 s.data.toList 0 = 0) = true from h5)))
        . have := C9 (s := s) (of_decide_eq_true (show decide (s.size = 0) = true from h5))
          subst this
          have : n = 0 := by rcases h4 with h4 | h4 <;> omega
          subst this
          exact .yes
        . have := C9 (s := s) (of_decide_eq_true (show decide (s.size = 0) = true from h5))
          subst this
          have : n = 0 := by rcases h4 with h4 | h4 <;> omega
          subst this
          exact .no
      all_goals
        have h5' : s.size = 0 := by
          have ho : o ≠ 2 := by omega
          revert h5
          show (if o = 2 then _ else decide (s.size = 0)) = true -> _
          rw [if_neg ho]; exact fun h => of_decide_eq_true h
        have := C9 h5'
        subst this
        have : n = 0 := by rcases h4 with h4 | h4 <;> omega
        subst this
      . obtain ⟨a, rfl⟩ : ∃ a, l = [a] := by
          match l, h7 with
          | [a], _ => exact ⟨a, rfl⟩
        rcases h6 with rfl | rfl
        . exact .neg a (hl a (by simp))
        . exact .not a (hl a (by simp))
      . obtain ⟨a, b, rfl⟩ : ∃ a b, l = [a, b] := by
          match l, h7 with
          | [a, b], _ => exact ⟨a, b, rfl⟩
        exact .bin o a b h6.1 h6.2 (hl a (by simp)) (hl b (by simp))
      . obtain ⟨a, b, c, rfl⟩ : ∃ a b c, l = [a, b, c] := by
          match l, h7 with
          | [a, b, c], _ => exact ⟨a, b, c, rfl⟩
        subst h6
        exact .ite a b c (hl a (by simp)) (hl b (by simp)) (hl c (by simp))
theorem Ml : ∀ (l : List Ex) (left d k : Nat), Dt left d l = some k -> ∀ x ∈ l, Good x
  | [], left, d, k, h => by simp
  | x :: r, left, d, k, h => by
    rw [Dt] at h
    split at h
    . cases h
    . rename_i j e
      intro y hy
      rcases List.mem_cons.1 hy with hy | hy
      . rw [hy]; exact Ow x _ _ _ e
      . exact Ml r _ _ _ h y hy
end
theorem C7 {x : Ex} (h : Bg x = 0) : Good x := by
  have := (Cr x).1 h
  unfold Ge at this
  obtain ⟨k, hk⟩ := Option.isSome_iff_exists.1 this
  exact Ow x _ _ _ hk
abbrev KT := Int × ByteArray
def kOp (o : Int) : KT := (if o = 6 \/ o = 17 \/ o = 18 then 2 else 4, C3 o)
def N9 (p : List KT × Int) (Z6 : Int) : List KT := if p.2 < Z6 then ((4, Ik) :: p.1) ++ [(4, Hl)] else p.1
def Tl (o : Int) : Int := if Ak o = 4 then 5 else Ak o
def Uc (o : Int) : Int := if Ak o = 4 then 5 else Ak o + 1
def Amw (o n : Int) (s : ByteArray) : List (List KT × Int) -> List KT
  | [] => if o = 1 then [(3, Mr n)] else if o = 2 then [(1, s)] else if o = 3 then [(2, Oc)] else [(2, Jg)]
  | [a] => kOp o :: N9 a (Ak o)
  | [a, b] => N9 a (Tl o) ++ kOp o :: N9 b (Uc o)
  | [a, b, c] => (2, kIf) :: (a.1 ++ (2, Kq) :: (b.1 ++ (2, Kp) :: c.1))
  | _ => []
mutual
def tkX : Ex -> List KT
  | .mk o n s l => Amw o n s (tkL l)
def tkL : List Ex -> List (List KT × Int)
  | [] => []
  | .mk o n s l :: r => (tkX (.mk o n s l), Ak o) :: tkL r
end
theorem E0 (x : Ex) (r : List Ex) : tkL (x :: r) = (tkX x, Ak x.op) :: tkL r := by cases x; rw [tkL]; rfl
def tkW (x : Ex) (k : Int) : List KT := N9 (tkX x, Ak x.op) k
theorem Lo (n : Int) : tkX (.mk 1 n ⟨#[]⟩ []) = [(3, Mr n)] := by rw [tkX, tkL]; rfl
theorem Id (s : ByteArray) : tkX (.mk 2 0 s []) = [(1, s)] := by rw [tkX, tkL]; rfl
theorem Mk : tkX (nd 3 []) = [(2, Oc)] := by rw [nd, tkX, tkL]; rfl
theorem Sg : tkX (nd 4 []) = [(2, Jg)] := by rw [nd, tkX, tkL]; rfl
theorem Fa (o : Int) (a : Ex) : tkX (nd o [a]) = kOp o :: tkW a (Ak o) := by rw [nd, tkX, E0, tkL]; rfl
theorem Jt (o : Int) (a b : Ex) : tkX (nd o [a, b]) = tkW a (Tl o) ++ kOp o :: tkW b (Uc o) := by rw [nd, tkX, E0, E0, tkL]; rfl
theorem Sf (a b c : Ex) : tkX (nd 19 [a, b, c]) = (2, kIf) :: (tkX a ++ (2, Kq) :: (tkX b ++ (2, Kp) :: tkX c)) := by rw [nd, tkX, E0, E0, E0, tkL]; rfl
theorem Lf {x : Ex} {k : Int} (h : k <= Ak x.op) : tkW x k = tkX x := if_neg (by simp only; omega)
theorem P2 {x : Ex} {k : Int} (h : Ak x.op < k) : tkW x k = ((4, Ik) :: tkX x) ++ [(4, Hl)] := if_pos h
def tkN (x : Ex) (k : Int) : Nat := (tkW x k).length
theorem Q2 (x : Ex) (k : Int) : tkN x k = (tkX x).length + (if Ak x.op < k then 2 else 0) := by
  unfold tkN tkW N9
  simp only
  split <;> simp
theorem Sd {x : Ex} (h : Good x) : 1 <= (tkX x).length := by
  cases h with
  | num n _ _ => rw [Lo]; simp
  | name s _ => rw [Id]; simp
  | yes => rw [Mk]; simp
  | no => rw [Sg]; simp
  | neg a _ => rw [Fa]; simp
  | not a _ => rw [Fa]; simp
  | bin o a b _ _ _ _ => rw [Jt]; simp; omega
  | ite a b c _ _ _ => rw [Sf]; simp
theorem T9 {x : Ex} (h : Good x) (k : Int) : 1 <= tkN x k := by
  have := Sd h
  rw [Q2]; omega
end Go.Proofs.YtiledamgmppcmaaGreatDoor
namespace Go.Proofs.YtiledamgmppcmaaGreatDoor
open Go.RowKit
theorem Uy (n : Nat) : Lib.decDigits n = Hk n := by
  induction n using Nat.strongRecOn with
  | _ n ih =>
    rw [Lib.decDigits, Hk]
    split
    . rfl
    . rw [ih (n / 10) (by omega)]
theorem O7 {n : Int} (h : 0 <= n) : (Mr n).data.toList = Hk n.toNat := by
  obtain ⟨k, rfl⟩ := Int.eq_ofNat_of_zero_le h
  unfold Mr; rw [I2, Uy]; simp
theorem Ls {n : Int} (h : 0 <= n) (h2 : n <= 9999) : Bl (Mr n).data.toList = true := by rw [O7 h]; exact Lt _ (by omega)
variable {l : List TkZ}
end Go.Proofs.YtiledamgmppcmaaGreatDoor
namespace Go.Proofs.YtiledamgmppcmaaGreatDoor
open Go.RowKit
def jn (ts : List KT) : List UInt8 := Lib.join (ts.map fun t => t.2.data.toList) [32]
theorem If (t : KT) : jn [t] = t.2.data.toList := Lib.join_one _ _
theorem C8 (t : KT) {r : List KT} (h : r ≠ []) : jn (t :: r) = t.2.data.toList ++ 32 :: jn r := by
  cases r with
  | nil => exact absurd rfl h
  | cons u r =>
    unfold jn
    rw [List.map_cons, List.map_cons, Lib.join_cons, Lib.join_cons]
    simp [Lib.joinTail]
theorem Eh : ∀ {s r : List KT}, s ≠ [] -> r ≠ [] -> jn (s ++ r) = jn s ++ 32 :: jn r
  | [], _, h, _ => absurd rfl h
  | [t], r, _, h => by rw [List.singleton_append, C8 t h, If]
  | t :: u :: s, r, _, h => by
    rw [List.cons_append, C8 t (by simp), Eh (by simp) h, C8 t (by simp)]
    simp
theorem U3 : ∀ {ts : List KT}, (∀ t ∈ ts, t.2.size <= 12) -> (jn ts).length <= 13 * ts.length
  | [], _ => by simp [jn, Lib.join_nil]
  | [t], h => by rw [If]; have := h t (by simp); simp; omega
  | t :: u :: r, h => by
    have h1 := U3 (ts := u :: r) fun x hx => h x (List.mem_cons_of_mem _ hx)
    have h2 := h t (by simp)
    rw [C8 t (by simp)]
    simp only [List.length_append, List.length_cons, Array.length_toList] at h1 |-
    have : t.2.data.size = t.2.size := rfl
    omega
theorem Ci (a b : ByteArray) : (a ++ b).data.toList = a.data.toList ++ b.data.toList := by simp
theorem N1 {x : Ex} (h : Good x) : tkX x ≠ [] := fun e => by have := Sd h; rw [e] at this; simp at this
theorem Ot {x : Ex} (h : Good x) (k : Int) : tkW x k ≠ [] := fun e => by have := T9 h k; unfold tkN at this; rw [e] at this; simp at this
theorem Li {x : Ex} (hx : Good x) (h : (Ap x).data.toList = jn (tkX x)) (k : Int) : (F5 (Ap x, Ak x.op) k).data.toList = jn (tkW x k) := by
  unfold F5
  split
  . rename_i hc
    rw [P2 hc, Eh (by simp) (by simp), C8 _ (N1 hx), If, Ci, Ci, h]
    simp [Wk, Ahm, Ik, Hl]
  . rename_i hc
    rw [Lf (by exact Int.not_lt.1 hc), h]
theorem P9 {x : Ex} (hx : Good x) : (Ap x).data.toList = jn (tkX x) := by
  induction hx with
  | num n h1 h2 => rw [Lo, If, Cp]; rfl
  | name s h1 => rw [Id, If, Cp]; rfl
  | yes => rw [Mk, If, Cp]; rfl
  | no => rw [Sg, If, Cp]; rfl
  | neg y hy ih =>
    rw [Fa, C8 _ (Ot hy _), <- Li hy ih, Cp, Cd, show (nd 5 [y]).op = 5 from rfl, show (nd 5 [y]).args = [y] from rfl, Ev (by omega)]
    simp only [List.map_cons, List.map_nil]
    rw [Ci, Ci]
    simp [sSp, kOp]
  | not y hy ih =>
    rw [Fa, C8 _ (Ot hy _), <- Li hy ih, Cp, Cd, show (nd 6 [y]).op = 6 from rfl, show (nd 6 [y]).args = [y] from rfl, Ev (by omega)]
    simp only [List.map_cons, List.map_nil]
    rw [Ci, Ci]
    simp [sSp, kOp]
  | bin o y z h1 h2 hy hz ih1 ih2 =>
    rw [Jt, Eh (Ot hy _) (by simp), C8 _ (Ot hz _), <- Li hy ih1, <- Li hz ih2, Cp, Cd, show (nd o [y, z]).op = o from rfl, show (nd o [y, z]).args = [y, z] from rfl, Ev (by omega)]
    simp only [List.map_cons, List.map_nil]
    unfold Tl Uc
    split
    . rw [Ci, Ci, Ci, Ci]
      simp [sSp, kOp]
    . rw [Ci, Ci, Ci, Ci]
      simp [sSp, kOp]
  | ite y z w hy hz hw ih1 ih2 ih3 =>
    rw [Sf, C8 _ (by simp), Eh (N1 hy) (by simp), C8 _ (by simp), Eh (N1 hz) (by simp), C8 _ (N1 hw), <- ih1, <- ih2, <- ih3, Cp, Cd]
    show ((((((sIf ++ Ap y) ++ Mp) ++ Ap z) ++ Wj) ++ Ap w) : ByteArray).data.toList = _
    rw [Ci, Ci, Ci, Ci, Ci]
    simp [sIf, Mp, Wj, kIf, Kq, Kp]
def Jr (t : KT) : Bool := Ay t.1 t.2.data.toList
theorem E2 {ts : List KT} {v k : Int} (h : ∀ t ∈ ts, Jr t = true) : ∀ t ∈ N9 (ts, v) k, Jr t = true := by
  intro t ht
  unfold N9 at ht
  split at ht
  . rcases List.mem_append.1 ht with ht | ht
    . rcases List.mem_cons.1 ht with rfl | ht
      . decide +kernel
      . exact h t ht
    . rw [List.mem_singleton] at ht; subst ht; decide +kernel
  . exact h t ht
theorem Ir {o : Int} (h1 : 5 <= o) (h2 : o <= 18) : Jr (kOp o) = true := by
  rcases M0 h1 h2 with rfl | rfl | rfl | rfl | rfl | rfl | rfl | rfl | rfl | rfl | rfl | rfl | rfl | rfl <;> decide +kernel
theorem N2 {x : Ex} (hx : Good x) : ∀ t ∈ tkX x, Jr t = true := by
  induction hx with
  | num n h1 h2 =>
    rw [Lo]
    intro t ht
    rw [List.mem_singleton] at ht; subst ht
    exact Ls h1 h2
  | name s h1 =>
    rw [Id]
    intro t ht
    rw [List.mem_singleton] at ht; subst ht
    exact h1
  | yes =>
    rw [Mk]
    intro t ht
    rw [List.mem_singleton] at ht; subst ht
    decide +kernel
  | no =>
    rw [Sg]
    intro t ht
    rw [List.mem_singleton] at ht; subst ht
    decide +kernel
  | neg y hy ih =>
    rw [Fa]
    intro t ht
    rcases List.mem_cons.1 ht with rfl | ht
    . exact Ir (by omega) (by omega)
    . exact E2 ih t ht
  | not y hy ih =>
    rw [Fa]
    intro t ht
    rcases List.mem_cons.1 ht with rfl | ht
    . exact Ir (by omega) (by omega)
    . exact E2 ih t ht
  | bin o y z h1 h2 hy hz ih1 ih2 =>
    rw [Jt]
    intro t ht
    rcases List.mem_append.1 ht with ht | ht
    . exact E2 ih1 t ht
    . rcases List.mem_cons.1 ht with rfl | ht
      . exact Ir (by omega) (by omega)
      . exact E2 ih2 t ht
  | ite y z w hy hz hw ih1 ih2 ih3 =>
    rw [Sf]
    intro t ht
    rcases List.mem_cons.1 ht with rfl | ht
    . decide +kernel
    rcases List.mem_append.1 ht with ht | ht
    . exact ih1 t ht
    rcases List.mem_cons.1 ht with rfl | ht
    . decide +kernel
    rcases List.mem_append.1 ht with ht | ht
    . exact ih2 t ht
    rcases List.mem_cons.1 ht with rfl | ht
    . decide +kernel
    . exact ih3 t ht
theorem Lw {t : KT} (h : Jr t = true) : t.2.size <= 12 := by have := Hg h; simpa using this
@[reducible] def Ec (x : Ex) : Nat := (Uk x).length
theorem Ax (o n : Int) (s : ByteArray) (l : List Ex) : Ec (.mk o n s l) = 1 + (Gm l).length := by unfold Ec; rw [Uk]; simp; omega
theorem Bf : (Gm []).length = 0 := by rw [Gm]; rfl
theorem Bj (x : Ex) (r : List Ex) : (Gm (x :: r)).length = Ec x + (Gm r).length := by rw [Gm]; simp
theorem Or (x : Ex) (k : Int) : tkN x k <= (tkX x).length + 2 := by rw [Q2]; split <;> omega
theorem Sc {x : Ex} (hx : Good x) : (tkX x).length + 2 <= 5 * Ec x := by
  induction hx with
  | num n h1 h2 => rw [Lo, Ax, Bf]; simp
  | name s h1 => rw [Id, Ax, Bf]; simp
  | yes => rw [Mk, nd, Ax, Bf]; simp
  | no => rw [Sg, nd, Ax, Bf]; simp
  | neg y hy ih =>
    have := Or y (Ak 5)
    unfold tkN at this
    rw [Fa, nd, Ax, Bj, Bf]; simp; omega
  | not y hy ih =>
    have := Or y (Ak 6)
    unfold tkN at this
    rw [Fa, nd, Ax, Bj, Bf]; simp; omega
  | bin o y z h1 h2 hy hz ih1 ih2 =>
    have a1 := Or y (Tl o)
    have a2 := Or z (Uc o)
    unfold tkN at a1 a2
    rw [Jt, nd, Ax, Bj, Bj, Bf]; simp; omega
  | ite y z w hy hz hw ih1 ih2 ih3 =>
    rw [Sf, nd, Ax, Bj, Bj, Bj, Bf]; simp; omega
theorem Fi : Tr [] = 0 := by rw [Tr]
theorem Hn (x : Ex) (r : List Ex) : Tr (x :: r) = max x.hgt (Tr r) := by rw [Tr]
theorem Hp (k d : Nat) : Dt k d [] = some k := by rw [Dt]
theorem Iy {k d j : Nat} {x : Ex} {r : List Ex} (h : vis k d x = some j) : Dt k d (x :: r) = Dt j d r := by rw [Dt, h]
theorem Hq {left d : Nat} {x : Ex} (h1 : left ≠ 0) (h2 : d <= 12) (h3 : Cl x = true) : vis left d x = Dt (left - 1) (d + 1) x.args := by
  rw [Tu, if_neg]
  simp only [h3, not_or]
  exact ⟨h1, by omega, by simp⟩
theorem Ez {o : Int} {l : List Ex} (h : (l.length : Int) = Fl o) (h2 : o ≠ 2) : Cl (nd o l) = true := by
  unfold Cl
  show (decide ((l.length : Int) = Fl o) && decide ((0 : Int) <= 0) && decide ((0 : Int) <= 9999) && (decide ((0 : Int) = 0) || decide (o = 1)) && (if o = 2 then _ else decide ((⟨#[]⟩ : ByteArray).size = 0))) = true
  rw [if_neg h2, decide_eq_true h]
  simp; rfl
theorem U2 {x : Ex} (hx : Good x) : ∀ (left d : Nat), Ec x <= left -> d + x.hgt <= 13 -> vis left d x = some (left - Ec x) := by
  have hh : ∀ o n s l, (Ex.mk o n s l).hgt = Tr l + 1 := fun o n s l => by rw [Ex.hgt]
  induction hx with
  | num n h1 h2 =>
    intro left d hn hd
    rw [Ax, Bf] at hn |-
    rw [hh, Fi] at hd
    rw [Hq (by omega) (by omega) (by
      unfold Cl
      show (decide (((([] : List Ex).length : Nat) : Int) = Fl 1) && decide (0 <= n) && decide (n <= 9999) && (decide (n = 0) || decide ((1 : Int) = 1)) && (if (1 : Int) = 2 then _ else decide ((⟨#[]⟩ : ByteArray).size = 0))) = true
      rw [decide_eq_true h1, decide_eq_true h2, if_neg (by decide)]
      simp only [Bool.and_true, Bool.or_true, decide_true, Bool.and_eq_true, decide_eq_true_eq]
      decide)]
    exact Hp _ _
  | name s h1 =>
    intro left d hn hd
    rw [Ax, Bf] at hn |-
    rw [hh, Fi] at hd
    rw [Hq (by omega) (by omega) (by
      unfold Cl
      show (decide (((([] : List Ex).length : Nat) : Int) = Fl 2) && decide ((0 : Int) <= 0) && decide ((0 : Int) <= 9999) && (decide ((0 : Int) = 0) || decide ((2 : Int) = 1)) && (if (2 : Int) = 2 then decide (B5 1 s.data.toList 0 = 0) else _)) = true
      have : B5 1 s.data.toList 0 = 0 := by
        unfold B5
        rw [if_neg]
        rw [show Ay 1 s.data.toList = true from h1]
        simp
      rw [if_pos rfl, decide_eq_true this]
      decide)]
    exact Hp _ _
  | yes =>
    intro left d hn hd
    rw [nd, Ax, Bf] at hn
    rw [nd, hh, Fi] at hd
    rw [Hq (by omega) (by omega) (Ez (by decide) (by decide)), nd, Ax, Bf]
    exact Hp _ _
  | no =>
    intro left d hn hd
    rw [nd, Ax, Bf] at hn
    rw [nd, hh, Fi] at hd
    rw [Hq (by omega) (by omega) (Ez (by decide) (by decide)), nd, Ax, Bf]
    exact Hp _ _
  | neg y hy ih =>
    intro left d hn hd
    rw [nd, Ax, Bj, Bf] at hn
    rw [nd, hh, Hn, Fi] at hd
    rw [Hq (by omega) (by omega) (Ez (by rfl) (by decide)), nd, Ax, Bj, Bf]
    show Dt _ _ [y] = _
    rw [Iy (ih _ _ (by omega) (by omega)), Hp]
    congr 1; omega
  | not y hy ih =>
    intro left d hn hd
    rw [nd, Ax, Bj, Bf] at hn
    rw [nd, hh, Hn, Fi] at hd
    rw [Hq (by omega) (by omega) (Ez (by rfl) (by decide)), nd, Ax, Bj, Bf]
    show Dt _ _ [y] = _
    rw [Iy (ih _ _ (by omega) (by omega)), Hp]
    congr 1; omega
  | bin o y z h1 h2 hy hz ih1 ih2 =>
    intro left d hn hd
    rw [nd, Ax, Bj, Bj, Bf] at hn
    rw [nd, hh, Hn, Hn, Fi] at hd
    rw [Hq (by omega) (by omega) (Ez (by
      have : o = 7 \/ o = 8 \/ o = 9 \/ o = 10 \/ o = 11 \/ o = 12 \/ o = 13 \/ o = 14 \/ o = 15 \/ o = 16 \/ o = 17 \/ o = 18 := by omega
      rcases this with rfl | rfl | rfl | rfl | rfl | rfl | rfl | rfl | rfl | rfl | rfl | rfl <;> rfl) (by omega)), nd, Ax, Bj, Bj, Bf]
    show Dt _ _ [y, z] = _
    rw [Iy (ih1 _ _ (by omega) (by omega)), Iy (ih2 _ _ (by omega) (by omega)), Hp]
    congr 1; omega
  | ite y z w hy hz hw ih1 ih2 ih3 =>
    intro left d hn hd
    rw [nd, Ax, Bj, Bj, Bj, Bf] at hn
    rw [nd, hh, Hn, Hn, Hn, Fi] at hd
    rw [Hq (by omega) (by omega) (Ez (by rfl) (by decide)), nd, Ax, Bj, Bj, Bj, Bf]
    show Dt _ _ [y, z, w] = _
    rw [Iy (ih1 _ _ (by omega) (by omega)), Iy (ih2 _ _ (by omega) (by omega)), Iy (ih3 _ _ (by omega) (by omega)), Hp]
    congr 1; omega
theorem Pd {x : Ex} (hx : Good x) (h1 : Ec x <= 60) (h2 : x.hgt <= 12) : Bg x = 0 := by
  rw [Cr]; unfold Ge
  rw [U2 hx 60 1 h1 (by omega)]; rfl
theorem Nl {x : Ex} (h : Bg x = 0) : Ec x <= 60 := by
  obtain ⟨k, hk⟩ := Option.isSome_iff_exists.1 ((Cr x).1 h)
  have := (Wy x _ _ _ hk).1
  unfold Ec; omega
def ktL (l : List TkZ) : List KT := l.map fun t => (t.1, t.2.1)
def zT (t : KT) : ZTok := ⟨t.1, t.2.data.toList, 0⟩
theorem Ou (p : Nat) : ∀ (items : List (List UInt8 × ZTok)) (q : Nat), ∀ t ∈ toks q items, t.pos + t.text.length <= q + (pad items).length
  | [], q => by simp [toks]
  | x :: r, q => by
    intro t ht
    rw [toks] at ht
    rw [Gr]
    simp only [List.length_append]
    rcases List.mem_cons.1 ht with rfl | ht
    . simp; omega
    . have := Ou p r _ t ht
      omega
theorem Wn {ts : List KT} (hr : ∀ t ∈ ts, Jr t = true) (hlen : ts.length <= 1500) : ∃ tl, Cn (jn ts) = (tl, 0, 0) /\ ktL (tl.map Mt) = ts /\ Fr (tl.map Mt) = -1 /\ tl.length = ts.length := by
  have hlen2 := U3 fun t ht => Lw (hr t ht)
  have e1 : jn ts = Lib.join ((ts.map zT).map (·.text)) [32] := by unfold jn zT; rw [List.map_map]; rfl
  have hr' : ∀ t ∈ ts.map zT, Ay t.kind t.text = true := by
    intro t ht
    obtain ⟨u, hu, rfl⟩ := List.mem_map.1 ht
    exact hr u hu
  have h := R3 hr' (by simp; omega) (by rw [<- e1]; omega)
  rw [<- e1] at h
  have hk := N0 (ts.map zT)
  refine ⟨_, h, ?_, ?_, by rw [N3, Gt]; simp⟩
  . have h3 : (toks 0 (Ed (ts.map zT))).map (fun t => (t.kind, t.text)) = ts.map fun t => (t.1, t.2.data.toList) := by
      have := hk
      rw [List.map_map, List.map_map] at this
      exact this
    unfold ktL
    rw [List.map_map]
    have h4 := congrArg (List.map fun q : Int × List UInt8 => ((q.1, Aq q.2) : KT)) h3
    rw [List.map_map, List.map_map] at h4
    refine h4.trans ?_
    refine (List.map_congr_left fun t _ => ?_).trans (List.map_id _)
    show ((t.1, Aq t.2.data.toList) : KT) = t
    rw [Oe]
  . unfold Fr
    have hp : pad (Ed (ts.map zT)) = jn ts := by rw [Hc, <- e1]
    have hnone : ((toks 0 (Ed (ts.map zT))).map Mt).findIdx? Xg = none := by
      rw [List.findIdx?_eq_none_iff]
      intro t ht
      obtain ⟨u, hu, rfl⟩ := List.mem_map.1 ht
      have hpos := Ou 0 _ 0 u hu
      rw [hp] at hpos
      have hur : Ay u.kind u.text = true := by
        have hm : (u.kind, u.text) ∈ (ts.map zT).map fun t => (t.kind, t.text) := by
          rw [<- hk]
          exact List.mem_map.2 ⟨u.z, List.mem_map.2 ⟨u, hu, rfl⟩, rfl⟩
        obtain ⟨v, hv, hv2⟩ := List.mem_map.1 hm
        have := hr' v hv
        rw [Prod.mk.injEq] at hv2
        rw [hv2.1, hv2.2] at this
        exact this
      have hne := Ek hur
      have hl1 : 1 <= u.text.length := by cases h : u.text with | nil => exact absurd h hne | cons => simp
      unfold Xg Mt
      simp only [Bool.not_eq_false', decide_eq_true_eq]
      unfold B5
      rw [if_neg]
      simp only [Dn, hur, not_or]
      exact ⟨by omega, by omega, by simp⟩
    rw [hnone]
theorem Ua {x : Ex} (hc : Bg x = 0) : (tkX x).length <= 300 := by
  have := Sc (C7 hc)
  have := Nl hc
  omega
theorem Lz {x : Ex} (hc : Bg x = 0) : ∃ tl, Cn (Ap x).data.toList = (tl, 0, 0) /\ ktL (tl.map Mt) = tkX x /\ Fr (tl.map Mt) = -1 /\ tl.length = (tkX x).length := by
  rw [P9 (C7 hc)]
  exact Wn (N2 (C7 hc)) (by have := Ua hc; omega)
theorem Me (num : Bool) {n : Int} (h : 0 <= n /\ n < 256) : Good (C2 num n) := by
  unfold C2
  split
  . have : n / 16 % 2 = 0 \/ n / 16 % 2 = 1 := by omega
    rcases this with e | e <;> rw [e]
    . exact .yes
    . exact .no
  . split
    . have : n / 16 % 3 = 0 \/ n / 16 % 3 = 1 \/ n / 16 % 3 = 2 := by omega
      rcases this with e | e | e <;> rw [e] <;> exact .name _ (by decide +kernel)
    . have : n / 16 % 8 = 0 \/ n / 16 % 8 = 1 \/ n / 16 % 8 = 2 \/ n / 16 % 8 = 3 \/ n / 16 % 8 = 4 \/ n / 16 % 8 = 5 \/ n / 16 % 8 = 6 \/ n / 16 % 8 = 7 := by omega
      rcases this with e | e | e | e | e | e | e | e <;> rw [e] <;> exact .num _ (by decide) (by decide)
theorem Pj {num : Bool} {n : Int} (h : 0 <= n /\ n < 256) {l : List Ex} (hl : l.length = (A8 num n).2.length) (hg : ∀ x ∈ l, Good x) : Good (.mk (A8 num n).1 0 ⟨#[]⟩ l) := by
  have one : l.length = 1 -> ∃ a, l = [a] /\ Good a := fun h => by
    match l, h, hg with
    | [a], _, hg => exact ⟨a, rfl, hg a (by simp)⟩
  have two : l.length = 2 -> ∃ a b, l = [a, b] /\ Good a /\ Good b := fun h => by
    match l, h, hg with
    | [a, b], _, hg => exact ⟨a, b, rfl, hg a (by simp), hg b (by simp)⟩
  have three : l.length = 3 -> ∃ a b c, l = [a, b, c] /\ Good a /\ Good b /\ Good c := fun h => by
    match l, h, hg with
    | [a, b, c], _, hg => exact ⟨a, b, c, rfl, hg a (by simp), hg b (by simp), hg c (by simp)⟩
  unfold A8 at hl |-
  split at hl
  . rename_i h1
    rw [if_pos h1]
    split at hl
    . rename_i h2; rw [if_pos h2]
      obtain ⟨a, b, rfl, g1, g2⟩ := two hl
      exact .bin _ a b (by simp only; omega) (by simp only; omega) g1 g2
    . rename_i h2; rw [if_neg h2]
      split at hl
      . rename_i h3; rw [if_pos h3]
        obtain ⟨a, rfl, g1⟩ := one hl
        exact .not a g1
      . rename_i h3; rw [if_neg h3]
        split at hl
        . rename_i h4; rw [if_pos h4]
          obtain ⟨a, b, rfl, g1, g2⟩ := two hl
          exact .bin _ a b (by simp only; omega) (by simp only; omega) g1 g2
        . rename_i h4; rw [if_neg h4]
          obtain ⟨a, b, c, rfl, g1, g2, g3⟩ := three hl
          exact .ite a b c g1 g2 g3
  . rename_i h1
    rw [if_neg h1]
    split at hl
    . rename_i h2; rw [if_pos h2]
      obtain ⟨a, rfl, g1⟩ := one hl
      exact .neg a g1
    . rename_i h2; rw [if_neg h2]
      split at hl
      . rename_i h3; rw [if_pos h3]
        obtain ⟨a, b, rfl, g1, g2⟩ := two hl
        exact .bin _ a b (by simp only; omega) (by simp only; omega) g1 g2
      . rename_i h3; rw [if_neg h3]
        obtain ⟨a, b, c, rfl, g1, g2, g3⟩ := three hl
        exact .ite a b c g1 g2 g3
theorem Ft {g : Int -> Nat -> Ex × Nat} {R : Ex -> Prop} (hg : ∀ t a, R (g t a).1) : ∀ (ts : List Int) (a : Nat), ∀ x ∈ (Be g ts a).1, R x
  | [], a, x, h => by simp [Be] at h
  | t :: ts, a, x, h => by
    simp only [Be] at h
    rcases List.mem_cons.1 h with rfl | h
    . exact hg t a
    . exact Ft hg ts _ x h
theorem Oj (l : List UInt8) : ∀ (f : Nat) (want : Int) (a : Nat), Good (Gd l f want a).1
  | 0, want, a => by rw [Gd]; exact Me _ (Ey l a)
  | f + 1, want, a => by
    rw [Gd]
    split
    . exact Me _ (Ey l a)
    . exact Pj (Ey l a) (by rw [Fu, F8]) (Ft (Oj l f) _ _)
theorem Yq {l : List Ex} {k : Nat} (h : ∀ x ∈ l, x.hgt <= k) : Tr l <= k := by
  induction l with
  | nil => rw [Fi]; omega
  | cons x r ih =>
    rw [Hn]
    have h1 := h x (by simp)
    have h2 := ih fun y hy => h y (List.mem_cons_of_mem _ hy)
    omega
theorem Ew (num : Bool) (n : Int) : (C2 num n).hgt = 1 /\ Ec (C2 num n) = 1 := by
  have hh : ∀ o n s l, (Ex.mk o n s l).hgt = Tr l + 1 := fun o n s l => by rw [Ex.hgt]
  unfold C2
  repeat' split
  all_goals rw [hh, Fi, Ax, Bf]
  all_goals exact ⟨rfl, rfl⟩
theorem Rr (l : List UInt8) : ∀ (f : Nat) (want : Int) (a : Nat), (Gd l f want a).1.hgt <= f + 1
  | 0, want, a => by rw [Gd]; rw [(Ew _ _).1]; omega
  | f + 1, want, a => by
    rw [Gd]
    split
    . show (C2 _ _).hgt <= _
      rw [(Ew _ _).1]; omega
    . rw [Ex.hgt]
      have := Yq (Ft (R := fun x => x.hgt <= f + 1) (Rr l f) (Fq want (A8 (Dp want (Aw l a)) (Aw l a)).2) (a + 1))
      omega
theorem It {g : Int -> Nat -> Ex × Nat} (hg : ∀ t a, (g t a).2 = a + Ec (g t a).1 /\ (g t a).2 + 3 * (18 - (g t a).2) <= a + 3 * (18 - a) + 1) : ∀ (ts : List Int) (a : Nat), (Be g ts a).2 = a + (Gm (Be g ts a).1).length /\ (Be g ts a).2 + 3 * (18 - (Be g ts a).2) <= a + 3 * (18 - a) + ts.length
  | [], a => by simp [Be, Gm]
  | t :: ts, a => by
    simp only [Be]
    have h1 := hg t a
    have h2 := It hg ts (g t a).2
    rw [Bj]
    simp only [List.length_cons]
    omega
theorem Mh (l : List UInt8) : ∀ (f : Nat) (want : Int) (a : Nat), (Gd l f want a).2 = a + Ec (Gd l f want a).1 /\ (Gd l f want a).2 + 3 * (18 - (Gd l f want a).2) <= a + 3 * (18 - a) + 1
  | 0, want, a => by
    rw [Gd]
    simp only
    rw [(Ew _ _).2]
    omega
  | f + 1, want, a => by
    rw [Gd]
    split
    . simp only
      rw [(Ew _ _).2]
      omega
    . rename_i h5
      have ha : a < 18 := by
        have h6 : Aw l a ≠ 0 := by intro h; rw [h] at h5; omega
        unfold Aw at h6
        split at h6
        . rename_i h7; exact h7.2
        . exact absurd rfl h6
      have h1 := It (Mh l f) (Fq want (A8 (Dp want (Aw l a)) (Aw l a)).2) (a + 1)
      have h2 := Is (Dp want (Aw l a)) (Aw l a)
      rw [F8] at h1
      simp only
      rw [Ax]
      omega
theorem Rk (l : List UInt8) (want : Int) : Good (Ic l want) := Oj l 9 want 0
theorem M7 (l : List UInt8) (want : Int) : Bg (Ic l want) = 0 := by
  have h := Mh l 9 want 0
  exact Pd (Rk l want) (by unfold Ic; omega) (by have := Rr l 9 want 0; unfold Ic; omega)
end Go.Proofs.YtiledamgmppcmaaGreatDoor
namespace Go.Proofs.YtiledamgmppcmaaGreatDoor
open Go.RowKit
section
variable {P : Program} {N : Nat} {Q : Exit -> (Nat -> PV) -> PS -> Prop} {F : Nat -> PV} {S : PS}
theorem Afn {c : Code} (t : Nat) {p p' : PV} (hF : F t = p) (hc : Coe S p p') (h : PW P N c Q (Aa7 t p' F) S) : PW P N c Q F S := by
  refine ⟨fun ro mm K w a hI hFr => h.run ro mm K w a hI ⟨hFr.size, fun t' => ?_⟩⟩
  unfold Aa7
  cases hb : Nat.beq t' t with
  | true =>
    have := Nat.eq_of_beq_eq_true hb
    subst this
    have h4 := hFr.rep t'
    rw [hF] at h4
    exact hc K w _ hI h4
  | false => exact hFr.rep t'
end
section
variable {N : Nat} {ops : Array Oper} {rest : List Oper} {o : Oper} {F : Nat -> PV} {S S' : PS} {q : WRes -> Prop} {ch : Nat -> Bool} {us : List (Nat × List Nat)} {k : Nat} {D : List Nat}
theorem wstR {C : Prop} {r : PV} (r' : PV) (hg : Am ops F o = some true) (h : Le tyi Bq F S o.op = some (C, r, S')) (hr : r = r') (hC : C) (k : WK Tryz.prog N ops rest (Ch N o.dst r' F) S' q) : WK Tryz.prog N ops (o :: rest) F S q := by
  subst hr; exact wst hg h hC k
theorem brow {t : TypeId} (kk : Bw.WB Tryz.prog N ops ch (Az us) (fun _ => []) (k + 1) rest (Ch N o.dst (.hd S.toks.length 0) F) (S.addTok ⟨0, (tyi t).ek, [], (tyi t).elem⟩) false D q) (hg : Am ops F o = some true := by exact rfl) (hc : ch k = true := by first | exact rfl | kernel_rfl) (ho : o.op = .buildSlice t 0 #[] := by exact rfl) (hk : (Bq t && Nat.beq (tyi t).kind 2) = true := by exact rfl)
    (ha : AgK ops k us S (S.addTok ⟨0, (tyi t).ek, [], (tyi t).elem⟩) := by repeat (first | exact Fk | refine A3 (Ah rfl Ar) ?_)) : Bw.WB Tryz.prog N ops ch (Az us) (fun _ => []) k (o :: rest) F S false D q := by
  simp only [Bool.and_eq_true] at hk
  exact Lm (J6 (len := 0) (out := []) (ds := []) ho (Gl t hk.1) (Nat.eq_of_beq_eq_true hk.2) (by simp) rfl (by simp [P4, E9, Qc]) rfl (by simp)) kk hg hc ha
theorem Aic {t : TypeId} {x y : Operand} {tk n j e : Nat} {l : List (List DV)} (news : List (List DV)) (h1 : (l.length + news.length) * (tyi t).eb <= 140737488355328) (kk : Bw.WB Tryz.prog N ops ch (Az us) (fun _ => []) (k + 1) rest (Ch N o.dst (.hd tk (n + 1)) F) S' false D q) (hg : Am ops F o = some true := by exact rfl) (hc : ch k = true := by first | exact rfl | kernel_rfl)
    (ho : o.op = .call { callee := .builtin .append, args := #[x, y], argTypes := #[t, t] } := by exact rfl) (hx : evP F x = .hd tk n := by exact rfl)
    (hT : S.toks[tk]? = some ⟨n, j, l, e⟩ := by exact rfl) (hk : (Bq t && Nat.beq (tyi t).kind 2 && Nat.beq j (tyi t).ek && Nat.beq e (tyi t).elem) = true := by exact rfl) (hy : S.toS (tyi t).ek (evP F y) = some news := by exact rfl) (hb : Nat.ble 1 (tyi t).eb = true := by exact rfl) (hS : S.setTok tk ⟨n + 1, j, l ++ news, e⟩ = S' := by exact rfl) (ha : AgK ops k us S S' := by repeat (first | exact Fk | refine A3 (Ah rfl Ar) ?_)) : Bw.WB Tryz.prog N ops ch (Az us) (fun _ => []) k (o :: rest) F S false D q := by
  subst hS
  simp only [Bool.and_eq_true] at hk
  have h2 : l.length + news.length <= 9223372036854775807 := by
    have h3 : 1 <= (tyi t).eb := by simpa using hb
    have h4 : l.length + news.length <= (l.length + news.length) * (tyi t).eb := Nat.le_mul_of_pos_right _ h3
    omega
  exact Lm (Qi (T := ⟨n, j, l, e⟩) ho (Gl t hk.1.1.1) (Nat.eq_of_beq_eq_true hk.1.1.2) hx hT (Nat.eq_of_beq_eq_true hk.1.2) (Nat.eq_of_beq_eq_true hk.2) hy h1 h2) kk hg hc ha
end
end Go.Proofs.YtiledamgmppcmaaGreatDoor
namespace Go.Proofs.YtiledamgmppcmaaGreatDoor
open Go.RowKit
theorem Nc {s : ByteArray} {tl : List Tok} (h : Cn s.data.toList = (tl, 0, 0)) : (∀ t ∈ tl.map Mt, t.2.1.size <= 12) /\ (tl.map Mt).length <= 2000 := by
  have h1 := J3 s.data.toList
  have h2 := Ny s.data.toList
  rw [h] at h1 h2
  refine ⟨fun t ht => ?_, by rw [List.length_map]; exact h2⟩
  obtain ⟨u, hu, rfl⟩ := List.mem_map.1 ht
  have := Hg (h1 u hu)
  show (Aq u.text).size <= 12
  have e : (Aq u.text).size = u.text.length := by unfold Aq; simp [ByteArray.size]
  omega
end Go.Proofs.YtiledamgmppcmaaGreatDoor
namespace Go.Proofs.YtiledamgmppcmaaGreatDoor
open Go.RowKit
theorem Aif {S : PS} {p : PV} {k : Nat} {l l' : List (List DV)} (h : S.toS k p = some l) (e : l = l') : Coe S p (.d (.sl k l')) := e ▸ Q5 h
end Go.Proofs.YtiledamgmppcmaaGreatDoor
namespace Go.Proofs.YtiledamgmppcmaaGreatDoor
open Go.RowKit Go.ChangeShapes Go.ChangeAt Go.WideShapes
structure DraftS where
  k : UInt8
  wh : UInt8
  ls : List UInt8
  n : Nat
@[reducible] def Aao (d : DraftS) : List DV := [.v (.int .u8 d.k.toNat), .v (.int .u8 d.wh.toNat), .sl 1 (d.ls.map fun b => [.v (.int .u8 b.toNat)]), .v (.int .u32 (d.n : Int))]
@[reducible] def draftP (d : DraftS) : PV := .agg [.d (.v (.int .u8 d.k.toNat)), .d (.v (.int .u8 d.wh.toNat)), Co d.ls, .d (.v (.int .u32 (d.n : Int)))]
def DraftS.tk (d : DraftS) : TkZ := ((Kj d.k d.wh d.ls d.n).kind, Aq (Kj d.k d.wh d.ls d.n).text, (Kj d.k d.wh d.ls d.n).pos)
theorem cells1 {K : Kx} {w : World} {b : Nat} : ∀ {ls : List UInt8} {o : Nat}, Dd (K.good w) w 1 (ls.map fun b => [DV.v (.int .u8 b.toNat)]) b o -> ∀ (j : Nat) (x : UInt8), ls[j]? = some x -> w.cell? ⟨b, o + j, none⟩ = some (u8v x)
  | [], o, _, j, x, h => by simp at h
  | c :: r, o, hr, 0, x, h => by
    simp at h; subst h
    simp only [List.map_cons, Dd, Bn, Ef] at hr
    obtain ⟨_, ⟨⟨u, h1, h2, _⟩, _⟩, _⟩ := hr
    rw [Nat.add_zero, h1, h2]
  | c :: r, o, hr, j + 1, x, h => by
    simp only [List.map_cons, Dd] at hr
    have := cells1 (ls := r) (o := o + 1) hr.2.2 j x (by simpa using h)
    rw [show o + (j + 1) = o + 1 + j by omega]; exact this
theorem Agg {K : Kx} {w : World} {ls : List UInt8} {u : Value} (h : Rep K w (Co ls) u) : ListS u8v w u ls := by
  simp only [Rep, Ef, List.length_map] at h
  obtain ⟨p, cap, rfl, h1, h2, h3⟩ := h
  refine ⟨p, cap, rfl, h1, h2, fun hne => ?_⟩
  obtain ⟨b, o, rfl, _, h4⟩ := h3 (by intro e; exact hne (List.map_eq_nil_iff.1 e))
  exact ⟨b, o, rfl, fun j x hx => cells1 h4 j x hx⟩
theorem draft_do (d : DraftS) (hn : d.n < 4294967296) : An 25 [draftP d] ⟨[], []⟩ (.ret (tkP d.tk.1 d.tk.2.1 d.tk.2.2)) ⟨[], []⟩ := by
  refine ⟨enters_of Tryz.func25 rfl rfl, fun K w vs hI hA => ?_⟩
  simp only [Bm] at hA
  obtain ⟨u, us, rfl, hr, rfl⟩ := hA
  simp only [Rep] at hr
  obtain ⟨cs, rfl, hr⟩ := hr
  simp only [Bm] at hr
  obtain ⟨u0, _, rfl, h0, u1, _, rfl, h1, u2, _, rfl, h2, u3, _, rfl, h3, rfl⟩ := hr
  rw [Ej h0, Ej h1, Ej h3]
  refine (Ao0 d.k d.wh u2 d.ls d.n w (Agg h2) hn).mono ?_
  rintro e w' ⟨rfl, hB⟩
  obtain ⟨g1, g2⟩ := hI.below hB
  refine ⟨K, g2, g1, _, rfl, ?_⟩
  unfold ZTok.val DraftS.tk
  simp only [Rep]
  refine ⟨_, rfl, ?_⟩
  simp only [Bm]
  exact ⟨_, _, rfl, Hf rfl, _, _, rfl, Hf rfl, _, _, rfl, Hf rfl, rfl⟩
theorem Agi : Tryz.prog.cellsOf 50 = 4 := by kernel_rfl
theorem draft_tk (d : DraftS) : d.tk.2.1.size <= 12 := by
  have := Hg (Ago d.k d.wh d.ls d.n)
  show (Aq _).size <= 12
  unfold Aq
  simpa [ByteArray.size] using this
set_option maxRecDepth 10000 in
theorem Aom {n : Nat} {ds : List DV} (h : Shp Tryz.prog n 50 ds) : ∃ d : DraftS, ds = Aao d /\ d.n < 4294967296 := by
  obtain ⟨m, parts, rfl, rfl, hl, hp⟩ := Py Tryz.underlying50 h
  obtain ⟨a, b, c, d, rfl⟩ := An0 hl
  obtain ⟨z0, rfl, w0⟩ := Ix Tryz.underlying5 (hp 0 _ a rfl rfl)
  obtain ⟨z1, rfl, w1⟩ := Ix Tryz.underlying5 (hp 1 _ b rfl rfl)
  obtain ⟨j, l, rfl, rfl, hx⟩ := Zg Tryz.underlying25 (hp 2 _ c rfl rfl)
  obtain ⟨z3, rfl, w3⟩ := Ix Tryz.underlying48 (hp 3 _ d rfl rfl)
  obtain ⟨b0, rfl⟩ := Lp w0
  obtain ⟨b1, rfl⟩ := Lp w1
  obtain ⟨ls, rfl⟩ := Qo hx
  obtain ⟨c1, c2⟩ := bounds_u32 w3
  have hz : z3.toNat < 4294967296 := by omega
  refine ⟨⟨b0, b1, ls, z3.toNat⟩, ?_, hz⟩
  rw [Of]
  show _ = [_, _, _, DV.v (.int .u32 ((z3.toNat : Nat) : Int))]
  rw [Int.toNat_of_nonneg (by omega)]; rfl
theorem shp_tok {n : Nat} {ds : List DV} (h : Shp Tryz.prog n 47 ds) : ∃ t : TkZ, ds = tkR t /\ t.2.1.size <= 9223372036854775807 := by
  obtain ⟨m, parts, rfl, rfl, hl, hp⟩ := Py Tryz.underlying47 h
  obtain ⟨a, b, c, rfl⟩ := parts3 hl
  obtain ⟨z0, rfl, _⟩ := Ix Tryz.underlying3 (hp 0 _ a rfl rfl)
  obtain ⟨s, rfl, hs⟩ := Zh Tryz.underlying9 (hp 1 _ b rfl rfl)
  obtain ⟨z2, rfl, _⟩ := Ix Tryz.underlying3 (hp 2 _ c rfl rfl)
  exact ⟨(z0, s, z2), rfl, hs⟩
end Go.Proofs.YtiledamgmppcmaaGreatDoor
namespace Go.Proofs.YtiledamgmppcmaaGreatDoor
open Go.RowKit
section
variable {N : Nat} {x y : Code} {Q : Exit -> (Nat -> PV) -> PS -> Prop} {F : Nat -> PV} {S : PS} {n m : Nat}
theorem An1 {c : Code} (L : List (Nat × PV)) (hL : Ads L F) (h : PB Tryz.prog N c Q (fr L) S n m) : PB Tryz.prog N c Q F S n m :=
  ⟨fun ro mm K w a K0 S0 w0 hI0 hn hm hs hI hF => h.run ro mm K w a K0 S0 w0 hI0 hn hm hs hI (Xa hL hF)⟩
theorem pb_mid {ι : Type} (ok : ι -> Prop) (L : ι -> List (Nat × PV)) (Sx : ι -> PS) (hx : PW Tryz.prog N x (Xk (fun F' S' => ∃ i, ok i /\ Ads (L i) F' /\ S' = Sx i) Q) F S) (hy : ∀ i, ok i -> PB Tryz.prog N y Q (fr (L i)) (Sx i) n m) : PB Tryz.prog N (.seq x y) Q F S n m := by
  refine Rt (hx.mono fun e F' S' h => ?_)
  cases e with
  | normal =>
    obtain ⟨i, h1, h2, rfl⟩ := h
    exact An1 (L i) h2 (hy i h1)
  | ret => exact h
  | exit id => exact h
  | goto l => exact h
  | panic c => exact h
  | outgrown => exact h
end
def Tp (r : List (List DV)) (b n : Nat) : Prop := ∃ X : List TkZ, r = X.map tkR /\ (∀ t ∈ X, t.2.1.size <= b) /\ X.length <= n
theorem tr_nil {b : Nat} : Tp [] b 0 := ⟨[], rfl, by simp, Nat.le_refl _⟩
theorem Adg {X : List TkZ} {b n : Nat} (h : ∀ t ∈ X, t.2.1.size <= b) (hn : X.length <= n) : Tp (X.map tkR) b n := ⟨X, rfl, h, hn⟩
theorem tr_app {r s : List (List DV)} {b n m : Nat} (h : Tp r b n) (h' : Tp s b m) : Tp (r ++ s) b (n + m) := by
  obtain ⟨X, rfl, h1, h2⟩ := h
  obtain ⟨Y, rfl, h3, h4⟩ := h'
  refine ⟨X ++ Y, by simp, fun t ht => ?_, by simp; omega⟩
  rcases List.mem_append.1 ht with ht | ht
  . exact h1 t ht
  . exact h3 t ht
theorem Ao2 {r : List (List DV)} {b n k : Nat} (h : Tp r b n) : Tp (r.take k) b n := by
  obtain ⟨X, rfl, h1, h2⟩ := h
  exact ⟨X.take k, by simp [List.map_take], fun t ht => h1 t (List.mem_of_mem_take ht), by simp; omega⟩
theorem Ao1 {r : List (List DV)} {b n k : Nat} (h : Tp r b n) : Tp (r.drop k) b n := by
  obtain ⟨X, rfl, h1, h2⟩ := h
  exact ⟨X.drop k, by simp [List.map_drop], fun t ht => h1 t (List.mem_of_mem_drop ht), by simp; omega⟩
theorem cut00 {S : PS} : S.cut 0 0 = ⟨[], []⟩ := by simp [PS.cut]
section
variable {N : Nat} {c : Code} {Q : Exit -> (Nat -> PV) -> PS -> Prop} {F : Nat -> PV} {S : PS}
theorem Ahg (t : Nat) (L : List (Nat × PV)) {tk v e b n : Nat} {r : List (List DV)} (hF : F t = .hd tk v) (hT : S.toks[tk]? = some ⟨v, 3, r, e⟩) (hR : Tp r b n) (hL : RetF S 0 0 L F) (h : ∀ X : List TkZ, (∀ u ∈ X, u.2.1.size <= b) -> X.length <= n -> PB Tryz.prog N c Q (fr ((t, Ll X) :: L)) ⟨[], []⟩ 0 0) : PB Tryz.prog N c Q F S 0 0 := by
  obtain ⟨X, rfl, h1, h2⟩ := hR
  have h3 := h X h1 h2
  rw [<- cut00 (S := S)] at h3
  exact Afk 0 0 _ (Nat.le_refl _) (Nat.le_refl _) (by simp) (Mi (by rw [hF]; exact ret_hd (Q5 (Jh hT))) hL) h3
end
end Go.Proofs.YtiledamgmppcmaaGreatDoor
namespace Go.Proofs.YtiledamgmppcmaaGreatDoor
open Go.RowKit
theorem coe_dE {S : PS} {k : Nat} {l l' : List (List DV)} (e : l = l') : Coe S (.d (.sl k l)) (.d (.sl k l')) := e ▸ Ab _
def cut8 (raw : List TkZ) : List TkZ := (raw.take (if (8 : Int) < ((raw.map tkR).length : Int) then (8 : Int) else ((raw.map tkR).length : Int)).toNat).drop (0 : Int).toNat
theorem Ama (raw : List TkZ) : ((raw.map tkR).take (if (8 : Int) < ((raw.map tkR).length : Int) then (8 : Int) else ((raw.map tkR).length : Int)).toNat).drop (0 : Int).toNat = (cut8 raw).map tkR := by unfold cut8; rw [List.map_drop, List.map_take]
theorem cut8_mem {raw : List TkZ} {t : TkZ} (h : t ∈ cut8 raw) : t ∈ raw := List.mem_of_mem_take (List.mem_of_mem_drop h)
theorem cut8_len (raw : List TkZ) : (cut8 raw).length <= 8 := by
  unfold cut8
  rw [List.length_drop, List.length_take]
  split <;> omega
theorem Ag0 {n m : Nat} : ∀ ls : List (List TkZ), PV.ltL n m (ls.map Ll) = true
  | [] => rfl
  | t :: ls => by
    show (true && PV.ltL n m (ls.map Ll)) = true
    rw [Ag0 ls]; rfl
theorem Ab9 {n m : Nat} : ∀ ns : List Int, PV.ltL n m (ns.map Ai) = true
  | [] => rfl
  | t :: ls => by
    show (true && PV.ltL n m (ls.map Ai)) = true
    rw [Ab9 ls]; rfl
set_option maxHeartbeats 4000000 in
theorem par_walk (raw : List TkZ) (ds : List DraftS) (l : List UInt8) (at_ : Int) (spot : Nat) (hspot : spot < 256) (hraw : ∀ t ∈ raw, t.2.1.size <= 9223372036854775807) (hds : ∀ d ∈ ds, d.n < 4294967296) (hw : An 24 [] ⟨[], []⟩ (.ret (A7 true)) ⟨[], []⟩) :
    An 4 [Ll raw, .d (.sl 4 (ds.map Aao)), Co l, Ai at_, .d (.v (.int .u8 spot))] ⟨[], []⟩ (.ret (A7 true)) ⟨[], []⟩ := by
  have hmx := O1 l ((spot : Int) % 3)
  have hx := M7 l ((spot : Int) % 3)
  generalize Ic l ((spot : Int) % 3) = x at hmx hx
  have hgx := C7 hx
  obtain ⟨hf1, hf2⟩ := V6 hx
  have hcx := Abr _ x (Nat.le_refl _) hf1 hf2
  obtain ⟨tl, g1, g2, g3, g4⟩ := Lz hx
  obtain ⟨z1, z2⟩ := Nc g1
  have hscan : An 26 [By (Ap x)] ⟨[], []⟩ (.ret (.tup [Ll (tl.map Mt), Ai 0, Ai 0])) ⟨[], []⟩ := by
    have h := Acv (Ap x)
    rw [g1, Lh] at h
    exact h
  generalize tl.map Mt = good at g2 z1 z2 hscan
  have hld : ((ds.map Aao).length : Int) = ds.length := by simp
  have hlg : ((good.map tkR).length : Int) = good.length := by simp
  refine Aan Tryz.func4 rfl rfl (Nat.le_of_ble_eq_true rfl) (fun hf => ?_)
  have hrl : raw.length <= 9223372036854775807 := by have := hf.1; simpa [Amo] using this
  have hlr : ((raw.map tkR).length : Int) = raw.length := by simp
  clear hf
  refine Rt ?_
  repeat' (first | refine rl3 ?_ | refine rs3 (fun h => ?_) (fun h => ?_) | fail)
  refine Rt ?_
  repeat' (first | refine rl3 ?_ | refine rs3 (fun h => ?_) (fun h => ?_) | fail)
  refine pb_mid (ι := Nat) (ok := fun i => i <= 30) (L := fun i => [(0, Ll raw), (2, Co l), (3, Ai at_), (4, .d (.v (.int .u8 spot))), (11, .hd 0 i)]) (Sx := fun i => ⟨[], [⟨i, 3, ((ds.take i).map DraftS.tk).map tkR, 47⟩]⟩) ?_ ?_
  . refine C5 ?_
    repeat' (first | refine rl3 ?_ | refine rs3 (fun h => ?_) (fun h => ?_) | fail)
    refine T4 11 3 47 rfl ?_
    refine Hy ?_
    refine Bt (ι := Nat) (ok := fun i => i <= ds.length /\ i <= 30) (L := fun i => [(0, Ll raw), (1, .d (.sl 4 (ds.map Aao))), (2, Co l), (3, Ai at_), (4, .d (.v (.int .u8 spot))), (11, .hd 0 i), (12, Ai i)]) (Sx := fun i => ⟨[], [⟨i, 3, ((ds.take i).map DraftS.tk).map tkR, 47⟩]⟩) (μ := fun i => ds.length - i) 0 ⟨Nat.zero_le _, Nat.zero_le _⟩ (by exact (by repeat (first | exact Ag | refine Ac rfl ?_))) rfl ?_
    rintro i ⟨hi, hi30⟩
    by_cases hc : i < ds.length /\ i < 30
    . obtain ⟨hc1, hc2⟩ := hc
      obtain ⟨d, hd⟩ : ∃ d, ds[i]? = some d := ⟨_, List.getElem?_eq_getElem hc1⟩
      have hdd := draft_do d (hds d (List.mem_of_getElem? hd))
      repeat' (first | refine rl2 ?_ | refine rs2 (fun h => ?_) (fun h => ?_) | fail)
      . refine wix (Aao d) rfl rfl rfl rfl rfl (by simp [hd]) (by omega) ?_
        repeat' (first | refine rl2 ?_ | refine rs2 (fun h => ?_) (fun h => ?_) | fail)
        refine wp1 hdd ?_
        repeat' (first | refine rl2 ?_ | refine rs2 (fun h => ?_) (fun h => ?_) | fail)
        refine Alh (news := [tkR d.tk]) (S' := ⟨[], [⟨i + 1, 3, ((ds.take (i + 1)).map DraftS.tk).map tkR, 47⟩]⟩) rfl rfl rfl rfl rfl rfl ?_ ?_ (by rw [List.take_add_one, hd]; simp [PS.setTok]) ?_
        . simp only [List.length_map, List.length_take]; show (_ + 1) * 32 <= _; omega
        . simp only [List.length_map, List.length_take]; show _ + 1 <= _; omega
        repeat' (first | refine rl2 ?_ | refine rs2 (fun h => ?_) (fun h => ?_) | fail)
        exact ⟨i + 1, ⟨hc1, hc2⟩, by omega, (by repeat (first | exact Ag | refine Ac rfl ?_)), rfl⟩
      all_goals (exfalso; simp at *; omega)
    . repeat' (first | refine rl2 ?_ | refine rs2 (fun h => ?_) (fun h => ?_) | fail)
      all_goals first | exact ⟨i, hi30, (by repeat (first | exact Ag | refine Ac rfl ?_)), rfl⟩ | (exfalso; simp at *; omega)
  intro i hi
  have hD12 : ∀ t ∈ (ds.take i).map DraftS.tk, t.2.1.size <= 12 := fun t ht => by
    obtain ⟨d, _, rfl⟩ := List.mem_map.1 ht
    exact draft_tk d
  have hDl : ((ds.take i).map DraftS.tk).length <= 30 := by simp; omega
  refine Ahg 11 [(0, Ll raw), (2, Co l), (3, Ai at_), (4, .d (.v (.int .u8 spot)))] rfl rfl (Adg hD12 hDl) (by repeat (first | exact X1 | refine Mi (Y4 rfl) ?_)) ?_
  intro D hD1 hD2
  clear hD12 hDl
  have hlD : ((D.map tkR).length : Int) = D.length := by simp
  refine Rt ?_
  repeat' (first | refine rl3 ?_ | refine rs3 (fun h => ?_) (fun h => ?_) | fail)
  refine wst rfl rfl ⟨by show (-9223372036854775808 : Int) <= _; omega, by show _ <= (9223372036854775807 : Int); omega⟩ ?_
  refine wp1 hmx ?_
  repeat' (first | refine rl3 ?_ | refine rs3 (fun h => ?_) (fun h => ?_) | fail)
  refine wp1 hcx ?_
  repeat' (first | refine rl3 ?_ | refine rs3 (fun h => ?_) (fun h => ?_) | fail)
  refine wp1 hscan ?_
  repeat' (first | refine rl3 ?_ | refine rs3 (fun h => ?_) (fun h => ?_) | fail)
  obtain ⟨k, hk, hkl⟩ : ∃ k : Nat, (spot : Int) % (((good.map tkR).length : Int) + 1) = k /\ k <= good.length := by
    refine ⟨((spot : Int) % (((good.map tkR).length : Int) + 1)).toNat, ?_, ?_⟩
    . rw [Int.toNat_of_nonneg (Int.emod_nonneg _ (by omega))]
    . have := Int.emod_lt_of_pos (spot : Int) (show (0 : Int) < ((good.map tkR).length : Int) + 1 by omega)
      have := Int.emod_nonneg (spot : Int) (show ((good.map tkR).length : Int) + 1 ≠ 0 by omega)
      omega
  refine Rt ?_
  repeat' (first | refine rl3 ?_ | refine rs3 (fun h => ?_) (fun h => ?_) | fail)
  refine wstR (.d (.v (.int .i64 (spot)))) rfl rfl rfl ⟨by show (-9223372036854775808 : Int) <= _; omega, by show _ <= (9223372036854775807 : Int); omega⟩ ?_
  repeat' (first | refine rl3 ?_ | refine rs3 (fun h => ?_) (fun h => ?_) | fail)
  refine An1 [(0, Ll raw), (3, Ai at_), (4, .d (.v (.int .u8 spot))), (11, Ll D), (13, Ll good), (16, Ai k)] (by refine Ac rfl (Ac rfl (Ac rfl (Ac rfl (Ac rfl (Ac ?_ Ag))))); exact congrArg (fun z => PV.d (.v (.int .i64 z))) hk) ?_
  clear hk
  refine Rt ?_
  refine b0 (fun j => Nat.beq j 0 || Nat.beq j 4 || Nat.beq j 12) [] ?_
  refine brow ?_
  repeat' (first | refine rl7 ?_ | refine rs7 (fun h => ?_) (fun h => ?_) | fail)
  refine Aic _ ?_ ?_
  . simp only [List.length_append, List.length_nil, List.length_drop, List.length_take, List.length_map]; show _ * 32 <= _; omega
  repeat' (first | refine rl7 ?_ | refine rs7 (fun h => ?_) (fun h => ?_) | fail)
  refine Aic _ ?_ ?_
  . simp only [List.length_append, List.length_nil, List.length_drop, List.length_take, List.length_map]; show _ * 32 <= _; omega
  repeat' (first | refine rl7 ?_ | refine rs7 (fun h => ?_) (fun h => ?_) | fail)
  refine Ahg 17 (b := 12) (n := 0 + good.length + good.length) [(0, Ll raw), (3, Ai at_), (4, .d (.v (.int .u8 spot))), (11, Ll D), (13, Ll good), (16, Ai k)] rfl rfl (by repeat (first | exact tr_nil | exact Adg z1 (Nat.le_refl _) | refine tr_app ?_ ?_ | refine Ao1 ?_ | refine Ao2 ?_)) (by repeat (first | exact X1 | refine Mi (Y4 rfl) ?_)) ?_
  intro L3 hL3 hn3
  have hl3 : ((L3.map tkR).length : Int) = L3.length := by simp
  refine Rt ?_
  refine b0 (fun j => Nat.beq j 0 || Nat.beq j 4 || Nat.beq j 10 || Nat.beq j 14) [] ?_
  refine brow ?_
  repeat' (first | refine rl7 ?_ | refine rs7 (fun h => ?_) (fun h => ?_) | fail)
  refine Aic _ ?_ ?_
  . simp only [List.length_append, List.length_nil, List.length_drop, List.length_take, List.length_map]; show _ * 32 <= _; omega
  repeat' (first | refine rl7 ?_ | refine rs7 (fun h => ?_) (fun h => ?_) | fail)
  refine Aic _ ?_ ?_
  . simp only [List.length_append, List.length_nil, List.length_drop, List.length_take, List.length_map]; show _ * 32 <= _; omega
  repeat' (first | refine rl7 ?_ | refine rs7 (fun h => ?_) (fun h => ?_) | fail)
  refine Aic _ ?_ ?_
  . simp only [List.length_append, List.length_nil, List.length_drop, List.length_take, List.length_map]; show _ * 32 <= _; omega
  repeat' (first | refine rl7 ?_ | refine rs7 (fun h => ?_) (fun h => ?_) | fail)
  refine Ahg 18 (b := 12) (n := 0 + good.length + D.length + good.length) [(0, Ll raw), (3, Ai at_), (4, .d (.v (.int .u8 spot))), (11, Ll D), (13, Ll good), (17, Ll L3)] rfl rfl (by repeat (first | exact tr_nil | exact Adg z1 (Nat.le_refl _) | exact Adg hD1 (Nat.le_refl _) | refine tr_app ?_ ?_ | refine Ao1 ?_ | refine Ao2 ?_)) (by repeat (first | exact X1 | refine Mi (Y4 rfl) ?_)) ?_
  intro L4 hL4 hn4
  have hl4 : ((L4.map tkR).length : Int) = L4.length := by simp
  refine Rt ?_
  refine C5 ?_
  refine b0 (fun j => Nat.beq j 9 || Nat.beq j 11 || Nat.beq j 13) [] ?_
  iterate 9 (first | refine b1 ?_ | refine b2 ?_ | refine b3 ?_ | refine b5 ?_ | refine b6 ?_ | refine b7 ?_ | refine b9 ?_ | refine b4 ?_ | refine b8 ?_ | refine b10 (fun h => ?_) (fun h => ?_))
  refine brow ?_
  repeat' (first | refine rl7 ?_ | refine rs7 (fun h => ?_) (fun h => ?_) | fail)
  refine Aic _ ?_ ?_
  . simp only [List.length_append, List.length_nil, List.length_drop, List.length_take, List.length_map]; show _ * 32 <= _; omega
  repeat' (first | refine rl7 ?_ | refine rs7 (fun h => ?_) (fun h => ?_) | fail)
  refine Aic _ ?_ ?_
  . simp only [List.length_append, List.length_nil, List.length_drop, List.length_take, List.length_map]; show _ * 32 <= _; omega
  repeat' (first | refine rl7 ?_ | refine rs7 (fun h => ?_) (fun h => ?_) | fail)
  refine Afn 106 (p' := .agg ([cut8 raw, D, good, L3, L4, good ++ D].map Ll)) rfl (A9 (Aa (coe_dE (Ama raw)) (Aa (Ab _) (Aa (Ab _) (Aa (Ab _) (Aa (Ab _) (Aa (Aif (Jh rfl) (by simp)) Ad))))))) ?_
  obtain ⟨ls, hls⟩ : ∃ ls, ls = [cut8 raw, D, good, L3, L4, good ++ D] := ⟨_, rfl⟩
  have hln : ls.length = 6 := by rw [hls]; rfl
  have hok : ∀ t ∈ ls, (∀ u ∈ t, u.2.1.size <= 9223372036854775807) /\ t.length <= 100000 := by
    intro t ht
    have up : ∀ {t : List TkZ}, (∀ u ∈ t, u.2.1.size <= 12) -> ∀ u ∈ t, u.2.1.size <= 9223372036854775807 := fun h u hu => Nat.le_trans (h u hu) (by decide)
    rw [hls] at ht
    simp only [List.mem_cons, List.not_mem_nil, or_false] at ht
    rcases ht with rfl | rfl | rfl | rfl | rfl | rfl
    . exact ⟨fun u hu => hraw u (cut8_mem hu), by have := cut8_len raw; omega⟩
    . exact ⟨up hD1, by omega⟩
    . exact ⟨up z1, by omega⟩
    . exact ⟨up hL3, by omega⟩
    . exact ⟨up hL4, by omega⟩
    . exact ⟨up (fun u hu => (List.mem_append.1 hu).elim (z1 u) (hD1 u)), by simp; omega⟩
  rw [<- hls]
  refine Hy ?_
  refine F9 (ι := Nat) (ok := fun i => i <= 6) (L := fun i => [(3, Ai at_), (4, .d (.v (.int .u8 spot))), (106, .agg (ls.map Ll)), (107, Ai i)]) (Sx := fun _ => ⟨[], [⟨2, 3, [] ++ good.map tkR ++ D.map tkR, 47⟩]⟩) (μ := fun i => 6 - i) 0 (Nat.zero_le _) (by exact (by repeat (first | exact Ag | refine Ac rfl ?_))) rfl ?_
  rintro i hi
  repeat' (first | refine rl2 ?_ | refine rs2 (fun h => ?_) (fun h => ?_) | fail)
  . have hlt : i < 6 := by simp at h; omega
    obtain ⟨t, ht⟩ : ∃ t, ls[i]? = some t := ⟨_, List.getElem?_eq_getElem (by omega)⟩
    obtain ⟨ht1, ht2⟩ := hok t (List.mem_of_getElem? ht)
    refine Ali (p := Ll t) rfl rfl rfl rfl rfl (by omega) (by show (i : Int) < 6; omega) (by show (ls.map Ll)[(i : Int).toNat * 1]? = _; simp [ht]) ?_
    repeat' (first | refine rl2 ?_ | refine rs2 (fun h => ?_) (fun h => ?_) | fail)
    refine wstR (.d (.v (.int .i64 ((spot : Int) % 7)))) rfl rfl rfl ⟨by show (-9223372036854775808 : Int) <= _; omega, by show _ <= (9223372036854775807 : Int); omega⟩ ?_
    repeat' (first | refine rl2 ?_ | refine rs2 (fun h => ?_) (fun h => ?_) | fail)
    obtain ⟨ns, hns⟩ : ∃ ns : List Int, ns = [0, at_, (spot : Int) % 7, ((t.map tkR).length : Int)] := ⟨_, rfl⟩
    refine Afn 116 (p' := .agg (ns.map Ai)) (by rw [hns]; rfl) (Ab _) ?_
    refine F9 (ι := Nat) (ok := fun j => j <= 4) (L := fun j => [(3, Ai at_), (4, .d (.v (.int .u8 spot))), (20, Ll t), (106, .agg (ls.map Ll)), (107, Ai i), (116, .agg (ns.map Ai)), (117, Ai j)]) (Sx := fun _ => ⟨[], [⟨2, 3, [] ++ good.map tkR ++ D.map tkR, 47⟩]⟩) (μ := fun j => 4 - j) 0 (Nat.zero_le _) (by exact (by repeat (first | exact Ag | refine Ac rfl ?_))) rfl ?_
    rintro j hj
    repeat' (first | refine rl2 ?_ | refine rs2 (fun h => ?_) (fun h => ?_) | fail)
    . have hj4 : j < 4 := by simp at h; omega
      obtain ⟨nv, hnv⟩ : ∃ nv, ns[j]? = some nv := ⟨_, List.getElem?_eq_getElem (by rw [hns]; exact hj4)⟩
      refine Ali (p := Ai nv) rfl rfl rfl rfl rfl (by omega) (by show (j : Int) < 4; omega) (by show (ns.map Ai)[(j : Int).toNat * 1]? = _; simp [hnv]) ?_
      repeat' (first | refine rl2 ?_ | refine rs2 (fun h => ?_) (fun h => ?_) | fail)
      have d2 := M1 t nv (by omega) ht1
      have d3 := Y6 t nv (by omega) ht1
      generalize De t nv = P at d2 d3
      have d4 := Wl _ P.1 P.1 (Nat.le_refl _)
      rw [Hh] at d4
      refine wp1 d2 ?_
      repeat' (first | refine rl2 ?_ | refine rs2 (fun h => ?_) (fun h => ?_) | fail)
      refine wp1 d3 ?_
      repeat' (first | refine rl2 ?_ | refine rs2 (fun h => ?_) (fun h => ?_) | fail)
      . exfalso; simp at h
      . exfalso; simp at h
      . refine wp1 d4 ?_
        repeat' (first | refine rl2 ?_ | refine rs2 (fun h => ?_) (fun h => ?_) | fail)
        exact ⟨j + 1, hj4, by omega, (by repeat (first | exact Ag | refine Ac rfl ?_)), rfl, rfl, by simp only [ltF, List.all_cons, List.all_nil, PV.lt, Ag0, Ab9, Bool.and_true], Nat.le_refl _, Nat.le_refl _⟩
    . exact ⟨i + 1, hlt, by omega, (by repeat (first | exact Ag | refine Ac rfl ?_)), rfl, rfl, by simp only [ltF, List.all_cons, List.all_nil, PV.lt, Ag0, Ab9, Bool.and_true], Nat.le_refl _, Nat.le_refl _⟩
  . refine pb_pw ?_
    repeat' (first | refine rl2 ?_ | refine rs2 (fun h => ?_) (fun h => ?_) | fail)
    refine wp1 hw ?_
    repeat' (first | refine rl2 ?_ | refine rs2 (fun h => ?_) (fun h => ?_) | fail)
    exact finR (.inr rfl) rfl rfl ret_d
end Go.Proofs.YtiledamgmppcmaaGreatDoor
namespace Go.Proofs.YtiledamgmppcmaaGreatDoor.exprParses
open Go.ChangeShapes Go.WideShapes Go.ChangeAt Go.RowKit Go.Joins
set_option linter.unusedVariables false
theorem own : ownKnob Tryz.prog.godebug = none := by kernel_rfl
theorem laidOut : laidOutB Tryz.prog = true := by kernel_rfl
set_option maxRecDepth 100000 in
theorem lifted (os : Os) (started : os.Started) (H : Type) (enc : TypeId × Value -> H) :
    ReturnsInHanded {} Tryz.checked os 4 .any (fun w args => (Rows.exprParsesSpec.pre enc Tryz.prog Tryz.f4 Rows.exprParsesRow.domain false w args /\ laidMetH Tryz.prog Rows.exprParsesRow.laid w) /\ sizedMet enc Tryz.prog Tryz.f4 (OpenSpec.ofChange Rows.exprParsesSpec) false w args)
      (Rows.exprParsesSpec.post enc Tryz.prog Tryz.f4 false true false false) := by
  refine returnsInHanded_of_change_and (C := Tryz.checked) (X := fun w _ => laidMetH Tryz.prog Rows.exprParsesRow.laid w) (fun _ _ _ hh h => h.of_heap hh) own started (by kernel_rfl) Tryz.func4
    (ChangeSpec.witness_shaped (enc := enc) (C := Tryz.checked) (os := os) (X := fun w _ => laidMetH Tryz.prog Rows.exprParsesRow.laid w) false (World.laidAll Tryz.prog os Rows.exprParsesRow.laid)
      #[.slice none 0 0, .slice none 0 0, .slice none 0 0, .int .i64 0, .int .u8 0] 8 (World.laidAll_os _ _ _)
      (World.shaped_of_ZipB (by kernel_rfl) (by kernel_rfl)) (by kernel_rfl) (by kernel_rfl) (by kernel_rfl)
      (by rw [MakeChecks.laidMetH_plain _ _ _ (by kernel_rfl)]; exact laidMet_laidAll _ (by kernel_rfl) (by kernel_rfl))) ?_
  intro W base args ds gs before hval0 hW hcnd _ hL _
  have hval : ∀ (j : Nat) t v, Tryz.f4.params[j]? = some t -> args[j]? = some v -> Value.okWide Tryz.prog W .any base t v := hval0
  have hW' := hW
  obtain ⟨p, q, hA0, hV, rfl, hfz, hnd⟩ := hW
  have hA : DataW.TrodAll enc Tryz.prog W 0 (fun _ => true) true Tryz.f4.params.toList args.toList ds p := hA0
  rw [Tryz.params4] at hA hval
  obtain ⟨v0, vs0, d0, ds0, p0, q0, hargs, rfl, rfl, h0, r0⟩ := trodAll_cons hA
  obtain ⟨v1, vs1, d1, ds1, p1, q1, rfl, rfl, rfl, h1, r1⟩ := trodAll_cons r0
  obtain ⟨v2, vs2, d2, ds2, p2, q2, rfl, rfl, rfl, h2, r2⟩ := trodAll_cons r1
  obtain ⟨v3, vs3, d3, ds3, p3, q3, rfl, rfl, rfl, h3, r3⟩ := trodAll_cons r2
  obtain ⟨v4, vs4, d4, ds4, p4, q4, rfl, rfl, rfl, h4, r4⟩ := trodAll_cons r3
  obtain ⟨rfl, rfl, rfl⟩ := trodAll_nil r4
  obtain rfl : args = #[v0, v1, v2, v3, v4] := by cases args; simp_all
  obtain ⟨rfl, rfl⟩ := trodVars_none hV
  have lt0 : ∀ x ∈ p0, x.block < W.heap.size := by obtain ⟨m, hm⟩ := h0; exact DataW.trod_lt m _ _ _ hm
  have lt1 : ∀ x ∈ p1, x.block < W.heap.size := by obtain ⟨m, hm⟩ := h1; exact DataW.trod_lt m _ _ _ hm
  have lt2 : ∀ x ∈ p2, x.block < W.heap.size := by obtain ⟨m, hm⟩ := h2; exact DataW.trod_lt m _ _ _ hm
  have lt3 : ∀ x ∈ p3, x.block < W.heap.size := by obtain ⟨m, hm⟩ := h3; exact DataW.trod_lt m _ _ _ hm
  have lt4 : ∀ x ∈ p4, x.block < W.heap.size := by obtain ⟨m, hm⟩ := h4; exact DataW.trod_lt m _ _ _ hm
  rw [MakeChecks.laidMetH_plain _ _ _ (by kernel_rfl)] at hL
  have hfr := Pc hL ⟨_, _, .tail _ (.tail _ (.head _)), by kernel_rfl, by kernel_rfl⟩
  obtain ⟨n0, e0, g0, s0⟩ := La Jc (by kernel_rfl) Tryz.underlying44 (hval 0 44 v0 rfl rfl) h0
  obtain ⟨raw, rfl, hraw⟩ := J2 tkR (R := fun t => t.2.1.size <= 9223372036854775807) fun y hy => shp_tok (s0 y hy)
  obtain ⟨n1, e1, g1, s1⟩ := La Jc (by kernel_rfl) Tryz.underlying45 (hval 1 45 v1 rfl rfl) h1
  obtain ⟨drs, rfl, hdr⟩ := J2 Aao (R := fun d => d.n < 4294967296) fun y hy => Aom (s1 y hy)
  obtain ⟨n2, e2, g2, s2⟩ := La Jc (by kernel_rfl) Tryz.underlying25 (hval 2 25 v2 rfl rfl) h2
  obtain ⟨l, rfl⟩ := Qo s2
  obtain ⟨z3, g3, w3⟩ := Rv Tryz.underlying3 (hval 3 3 v3 rfl rfl) h3
  obtain ⟨z4, g4, w4⟩ := Rv Tryz.underlying5 (hval 4 5 v4 rfl rfl) h4
  obtain ⟨u, rfl⟩ := Lp w4
  rw [Al4] at g0
  rw [Agi] at g1
  rw [Of] at g2
  clear hA0 hval0
  refine (Pk (vs := [v0, v1, v2, v3, v4]) (par_walk raw drs l z3 u.toNat u.toNat_lt hraw hdr Tj) hfr ⟨_, _, rfl, g0, _, _, rfl, g1, _, _, rfl, g2, _, _, rfl, g3, _, _, rfl, g4, rfl⟩).mono fun e W' ⟨he, bel⟩ => ?_
  subst he
  exact ⟨_, rfl, _, _, _, [], _, [], hW', trodAll_mk1 (shut_bool Tryz.underlying4 _), (trodAll_cons_mk (Below.trod laidOut (by kernel_rfl) (of_decide_eq_true (by kernel_rfl)) h0 bel lt0) (trodAll_cons_mk (Below.trod laidOut (by kernel_rfl) (of_decide_eq_true (by kernel_rfl)) h1 bel lt1) (trodAll_cons_mk (Below.trod laidOut (by kernel_rfl) (of_decide_eq_true (by kernel_rfl)) h2 bel lt2) (trodAll_cons_mk (Below.trod laidOut (by kernel_rfl) (of_decide_eq_true (by kernel_rfl)) h3 bel lt3) (trodAll_cons_mk (Below.trod laidOut (by kernel_rfl) (of_decide_eq_true (by kernel_rfl)) h4 bel lt4) trodAll_mk0))))), rfl, bel.frame _, fun h => by cases h⟩
end Go.Proofs.YtiledamgmppcmaaGreatDoor.exprParses
