/- A part of the proofs of some statements of this chapter: texts of these claims, merged. -/
import Derived.Below
import Derived.WalkKit
import Derived.BigQuiet
import Derived.Lib.Hide
import Derived.ControlIn
import Derived.OwnWalkIn
import Derived.Lib.ItoaNum
import Derived.OrdersIn
import Derived.TacticsIn
import Derived.Deep.MidRow
import Derived.OpenShut
import Derived.Lib.SmallJoins
import Derived.Laws.Tables
import Derived.Laws.OwnMore
import Derived.Orders
import Derived.Test.YtjagmmmcibdibaaGreatDoorProg
import Derived.Shelf.Abstract
import Derived.Test.YtjagmmmcibdibaaGreatDoorRows
import Derived.Carry
import Derived.Lib.LaidU8
import Derived.Lib.LaidTab
import Derived.Lay
import Derived.MakeChecks
import Derived.Laws.Strings
import Derived.WalkSpells
import Derived.WalkLawsBesides
import Derived.Laws.EntriesVeiled
import Derived.Deep.RegionHeld3
import Derived.Deep.QuietTactic
import Derived.Lib.Bytealg
import Derived.Shelf.Strings.Builder1
import Derived.Shelf.Small.Strs
import Derived.Shelf.Small.Wraps
import Derived.Shelf.Strings.BuilderF
import Derived.Shelf.Strings.BuilderK
import Derived.Shelf.Strconv.Atoi
import Derived.Shelf.Strconv.Itoa0
import Derived.Shelf.Strconv.Itoa1
import Derived.Shelf.LaysM
import Derived.Shelf.Strconv.Itoa2
import Derived.Shelf.Strconv.Itoa3
import Derived.Shelf.Strconv.AtoiErrFast
import Derived.Shelf.Strconv.ParseIntEmpty
import Derived.Shelf.Strconv.AtoiFail
import Derived.Shelf.Strconv.Clone
import Derived.Shelf.Strconv.SyntaxError
import Derived.Shelf.LaysC
import Derived.Shelf.Strconv.ToError
import Derived.Shelf.Strconv.AtoiErr
import Derived.Shelf.Strconv.ErrVar
import Derived.Shelf.Strconv.Lower
import Derived.Shelf.Strconv.ParseUint10
import Derived.Shelf.Strconv.ParseUint10Empty
import Derived.Shelf.Strconv.ParseUint10Any
import Derived.Shelf.Strconv.ParseInt10
import Derived.Shelf.Strconv.AtoiLong
import Derived.Shelf.Strconv.AtoiInnerAll
import Derived.Shelf.Strconv.RangeError
import Derived.Shelf.Strconv.ToErrorRange
import Derived.Shelf.Strconv.AtoiAll
import Derived.Shelf.Strconv.ErrVarAll
import Derived.Shelf.Strconv.ParseUintEmpty
import Derived.Shelf.Strconv.ParseUint10b64
import Derived.Shelf.Strconv.ParseUint10b32
import Derived.Shelf.Strconv.ParseUint10b16
import Derived.Shelf.Strconv.ParseUint10b8
import Derived.Shelf.Strconv.ParseUint10At
import Derived.Ground.MpProg
import Derived.Shelf.Pu.ParseUintPublic10
import Derived.Shelf.Pu.ErrVarParseUint
import Derived.Shelf.Strings.Search1
import Derived.Shelf.Strings.Search2
import Derived.Shelf.Strings.Cut
import Derived.Shelf.Strings.Shaped
import Derived.Shelf.Strings.Prefix
import Derived.Shelf.Strings.BuilderCap
import Derived.Shelf.Slices.Turned
import Derived.Ground.Names2Prog
import Derived.Shelf.Slices.SearchI
import Derived.Deep.DeepCutAuto
import Derived.Lib.IndexBytes
import Derived.Deep.LoopGhost
import Derived.StillTail
import Derived.BigRegion
import Derived.Deep.CutBlock
import Derived.RangeFuncBox
import Derived.RangeFuncLeaves
import Derived.RangeFuncCalls
import Derived.TacticsInMore
import Derived.LoopNIn
import Derived.LoopIn
import Derived.RecoverIn
import Derived.RangeFuncNested
import Derived.Maps.AppendAt
import Derived.Shelf.RegionOpen
import Derived.Laws.StructEq
import Derived.Lib.Join
import Derived.Deep.AppendLies
import Derived.Deep.RegionLaw
import Derived.Laws.Rows
import Derived.RangeFuncOwn
import Derived.Laws.MakeOwn
import Derived.Lib.AppendStr
import Derived.Laws.BytesArg
import Derived.Test.YtjagmmmcibdibaaGreatDoorZF5
set_option linter.unusedVariables false
set_option linter.unusedSimpArgs false
set_option linter.unusedSectionVars false
set_option linter.all false
namespace Go.Proofs.YtjagmmmcibdibaaGreatDoor
open Go.RowKit
@[reducible] def rsP (r : Res) : PV := .agg (resC (decide (r.1.1 < 0)) (Ao r.1.1.natAbs) (decide (r.1.2 < 0)) (Ao r.1.2.natAbs) r.2)
def evOut : Option Res -> POut
  | none => .panic divV
  | some r => .ret (rsP r)
theorem rsP_z (b : Bool) : rsP (zF, b) = .agg (resC false [] false [] b) := by
  unfold rsP zF; simp [Au]
theorem Y8 {f : Nat} {args : List PV} {S S' : PS} {b : Bool} (h : Aw f args S (.ret (.agg [At false, .d (.v (.slice none 0 0)), At false, .d (.v (.slice none 0 0)), At b])) S') : Aw f args S (.ret (rsP (zF, b))) S' := by
  rw [rsP_z]
  exact Dy h (by repeat' (first | exact Ae | refine Ab ?_ ?_ | exact Er | exact Ac _ | refine Eb ?_ | refine Hl ?_))
theorem Afa : ∀ (l : List ByteArray) (s : ByteArray), Uu l s < l.length
  | [], _ => by simp [Uu]
  | x :: r, s => by
    have := Afa r s
    rw [Uu]
    simp only [List.length_cons]
    split
    . omega
    . split <;> omega
section
variable {N : Nat} {ops : Array Oper} {rest : List Oper} {o : Oper} {F : Nat -> PV} {S : PS} {q : WRes -> Prop} {ch : Nat -> Bool} {us : List (Nat × List Nat)} {k : Nat} {bm : Bool} {D : List Nat}
theorem biv {t : TypeId} {x y : Operand} {l : List PV} {kd : IntKind} {j : Int} {p : PV} (h0 : 0 <= j) (kk : Bw.WB Tryz.prog N ops ch (Ck us) (fun _ => []) (k + 1) rest (Cd N o.dst p F) S bm D q) (hg : Al ops F o = some true := by exact rfl) (hc : ch k = false := by first | exact rfl | kernel_rfl) (ho : o.op = .index t x y := by exact rfl)
    (hk : (Ba t && Nat.beq (tyi t).kind 3 && Ba (tyi t).elem && !(tyi (tyi t).elem).isRow) = true := by exact rfl) (hx : evP F x = .agg l := by exact rfl) (hy : evP F y = .d (.v (.int kd j)) := by exact rfl) (hp : l[j.toNat * (tyi (tyi t).elem).size]? = some p := by exact rfl) (h1 : decide (j < ((tyi t).len : Int)) = true := by kernel_rfl) : Bw.WB Tryz.prog N ops ch (Ck us) (fun _ => []) k (o :: rest) F S bm D q := by
  simp only [Bool.and_eq_true, Bool.not_eq_true'] at hk
  exact Xb (fun S' _ => G9 ho (Fj t hk.1.1.1) (Nat.eq_of_beq_eq_true hk.1.1.2) (Fj _ hk.1.2) hx hy h0 (of_decide_eq_true h1) (.inr ⟨hk.2, hp⟩)) kk hg hc
end
@[reducible] def nfP : PV := .d (.v .nilFunc)
theorem arith_do : Aw 62 [] ⟨[], []⟩ (.ret (.agg [nfP, nfP, nfP, nfP, nfP, nfP, nfP, .fn 44 [], .fn 43 [], .fn 45 [], .fn 50 []])) ⟨[], []⟩ := by
  refine Af Tryz.func62 rfl rfl (Nat.le_of_ble_eq_true rfl) rfl (Nat.le_refl _) ?_
  repeat' (first | refine rl0 ?_ | refine rs0 (fun h => ?_) (fun h => ?_) | fail)
  rfl
set_option maxHeartbeats 4000000 in
theorem eval_do (vars : List ByteArray) (vals : List Int) (hl : vars.length = vals.length) (hv : Yz vals) : ∀ (n : Nat) (x : Ex), x.hgt <= n -> Good x -> A6 vars x ≠ 0 -> Bg x <= 60 -> Aw 29 [Ada vars vals, exP x] ⟨[], []⟩ (evOut (evX vars vals x)) ⟨[], []⟩ := by
  intro n
  induction n with
  | zero => intro a h; cases a; simp [Ex.hgt] at h
  | succ n ih =>
    intro x hn hx hk hs
    cases hx with
    | num m h1 h2 =>
      rw [Zf]
      have ho := fof_do m (by omega)
      show Aw _ _ _ (.ret (rsP ((m, 1), false))) _
      refine Af Tryz.func29 rfl rfl (Nat.le_of_ble_eq_true rfl) rfl (Nat.le_refl _) ?_
      repeat' (first | refine rl0 ?_ | refine rs0 (fun h => ?_) (fun h => ?_) | fail)
      refine wp1 ho ?_
      repeat' (first | refine rl0 ?_ | refine rs0 (fun h => ?_) (fun h => ?_) | fail)
      rfl
    | name s h1 =>
      rw [Aer]
      have hm := Uz hk
      rw [Zs] at hm
      have hi := of_decide_eq_true hm
      have hlt := Afa vars s
      obtain ⟨i, hii⟩ : ∃ i : Nat, Uu vars s = i := ⟨(Uu vars s).toNat, by omega⟩
      have hx := Zt vars s
      rw [hii] at hx
      have ho := fof_do (vals.getD i 0) (Age hv i)
      show Aw _ _ _ (.ret (rsP ((varV vars vals s, 1), false))) _
      unfold varV
      rw [hii, Int.toNat_natCast]
      refine Af Tryz.func29 rfl rfl (Nat.le_of_ble_eq_true rfl) rfl (Nat.le_refl _) ?_
      repeat' (first | refine rl2 ?_ | refine rs2 (fun h => ?_) (fun h => ?_) | fail)
      refine b0 (fun k => Nat.beq k 11) [(1, [0]), (3, [0]), (5, [1])] ?_
      repeat' (first | refine rl7 ?_ | refine rs7 (fun h => ?_) (fun h => ?_) | fail)
      refine Ah hx ?_
      repeat' (first | refine rl7 ?_ | refine rs7 (fun h => ?_) (fun h => ?_) | fail)
      refine Fk _ (Rp (l := vals) (i := i) (by omega)) (by omega) ?_
      repeat' (first | refine rl7 ?_ | refine rs7 (fun h => ?_) (fun h => ?_) | fail)
      refine Dj ho ?_
      repeat' (first | refine rl7 ?_ | refine rs7 (fun h => ?_) (fun h => ?_) | fail)
      repeat' (first | refine rl0 ?_ | refine rs0 (fun h => ?_) (fun h => ?_) | fail)
      rfl
    | yes =>
      rw [ev_yes]
      refine Y8 ?_
      refine Af Tryz.func29 rfl rfl (Nat.le_of_ble_eq_true rfl) rfl (Nat.le_refl _) ?_
      repeat' (first | refine rl0 ?_ | refine rs0 (fun h => ?_) (fun h => ?_) | fail)
      rfl
    | no =>
      rw [ev_no]
      refine Y8 ?_
      refine Af Tryz.func29 rfl rfl (Nat.le_of_ble_eq_true rfl) rfl (Nat.le_refl _) ?_
      repeat' (first | refine rl0 ?_ | refine rs0 (fun h => ?_) (fun h => ?_) | fail)
      rfl
    | neg a ha =>
      have hka := (Ng hk (by omega) (by omega)).1
      rw [show H1 5 = 1 from rfl] at hka
      have hna : Bg a + 1 = Bg (nd 5 [a]) := by rw [nd, A8, Be, B2]; omega
      have hc := ih a (by have := Ga (x := nd 5 [a]) (y := a) (by simp [nd, Ex.args]); omega) ha (by omega) (by omega)
      have hkk := Rb (vars := vars) hv ha (by omega)
      rw [ev_neg]
      cases e : evX vars vals a with
      | none =>
        rw [e] at hc
        refine Fh Tryz.func29 rfl rfl (Nat.le_of_ble_eq_true rfl) ?_
        repeat' (first | refine rl2 ?_ | refine rs2 (fun h => ?_) (fun h => ?_) | fail)
        refine b0w 5 (fun k => Nat.beq k 5 || Nat.beq k 6 || Nat.beq k 7) (fun k => Nat.beq k 5 || Nat.beq k 6 || Nat.beq k 7) [(0, [0]), (2, [1])] [(0, [0]), (2, [1])] (by dsimp only [mkE]) (by dsimp only [mkE, Fb, List.map]) ?_ ?_
        . repeat' (first | refine rl7 ?_ | refine rs7 (fun h => ?_) (fun h => ?_) | fail)
          refine Fk _ (Ak (i := 0) rfl) (by omega) ?_
          repeat' (first | refine rl7 ?_ | refine rs7 (fun h => ?_) (fun h => ?_) | fail)
          exact Ib (B4 rfl (hc).1 rfl rfl (Bh _) (hc).2) ⟨rfl, rfl, rfl⟩
        . repeat' (first | refine rl7 ?_ | refine rs7 (fun h => ?_) (fun h => ?_) | fail)
          refine Fk _ (Ak (i := 0) rfl) (by omega) ?_
          repeat' (first | refine rl7 ?_ | refine rs7 (fun h => ?_) (fun h => ?_) | fail)
          exact Ib (B4 rfl (hc).1 rfl rfl (Bh _) (hc).2) ⟨rfl, rfl, rfl⟩
      | some r =>
        rw [e] at hc
        obtain ⟨hf, hb⟩ := (hkk r e).1 hka
        have hg := fneg_do r.1
        show Aw _ _ _ (.ret (rsP (negF r.1, false))) _
        refine Af Tryz.func29 rfl rfl (Nat.le_of_ble_eq_true rfl) rfl (Nat.le_refl _) ?_
        repeat' (first | refine rl2 ?_ | refine rs2 (fun h => ?_) (fun h => ?_) | fail)
        refine b0 (fun k => Nat.beq k 6 || Nat.beq k 7) [(0, [0]), (2, [1])] ?_
        repeat' (first | refine rl7 ?_ | refine rs7 (fun h => ?_) (fun h => ?_) | fail)
        refine Fk _ (Ak (i := 0) rfl) (by omega) ?_
        repeat' (first | refine rl7 ?_ | refine rs7 (fun h => ?_) (fun h => ?_) | fail)
        refine Ah hc ?_
        repeat' (first | refine rl7 ?_ | refine rs7 (fun h => ?_) (fun h => ?_) | fail)
        repeat' (first | refine rl0 ?_ | refine rs0 (fun h => ?_) (fun h => ?_) | fail)
        refine wp1 hg ?_
        repeat' (first | refine rl0 ?_ | refine rs0 (fun h => ?_) (fun h => ?_) | fail)
        rfl
    | not a ha =>
      have hka := (Ng hk (by omega) (by omega)).1
      rw [show H1 6 = 2 from rfl] at hka
      have hna : Bg a + 1 = Bg (nd 6 [a]) := by rw [nd, A8, Be, B2]; omega
      have hc := ih a (by have := Ga (x := nd 6 [a]) (y := a) (by simp [nd, Ex.args]); omega) ha (by omega) (by omega)
      rw [Aes]
      cases e : evX vars vals a with
      | none =>
        rw [e] at hc
        refine Fh Tryz.func29 rfl rfl (Nat.le_of_ble_eq_true rfl) ?_
        repeat' (first | refine rl2 ?_ | refine rs2 (fun h => ?_) (fun h => ?_) | fail)
        refine b0w 5 (fun k => Nat.beq k 5 || Nat.beq k 6 || Nat.beq k 7) (fun k => Nat.beq k 5 || Nat.beq k 6 || Nat.beq k 7) [(0, [0]), (2, [1])] [(0, [0]), (2, [1])] (by dsimp only [mkE]) (by dsimp only [mkE, Fb, List.map]) ?_ ?_
        . repeat' (first | refine rl7 ?_ | refine rs7 (fun h => ?_) (fun h => ?_) | fail)
          refine Fk _ (Ak (i := 0) rfl) (by omega) ?_
          repeat' (first | refine rl7 ?_ | refine rs7 (fun h => ?_) (fun h => ?_) | fail)
          exact Ib (B4 rfl (hc).1 rfl rfl (Bh _) (hc).2) ⟨rfl, rfl, rfl⟩
        . repeat' (first | refine rl7 ?_ | refine rs7 (fun h => ?_) (fun h => ?_) | fail)
          refine Fk _ (Ak (i := 0) rfl) (by omega) ?_
          repeat' (first | refine rl7 ?_ | refine rs7 (fun h => ?_) (fun h => ?_) | fail)
          exact Ib (B4 rfl (hc).1 rfl rfl (Bh _) (hc).2) ⟨rfl, rfl, rfl⟩
      | some r =>
        rw [e] at hc
        show Aw _ _ _ (.ret (rsP (zF, !r.2))) _
        refine Y8 ?_
        refine Af Tryz.func29 rfl rfl (Nat.le_of_ble_eq_true rfl) rfl (Nat.le_refl _) ?_
        repeat' (first | refine rl2 ?_ | refine rs2 (fun h => ?_) (fun h => ?_) | fail)
        refine b0 (fun k => Nat.beq k 6 || Nat.beq k 7) [(0, [0]), (2, [1])] ?_
        repeat' (first | refine rl7 ?_ | refine rs7 (fun h => ?_) (fun h => ?_) | fail)
        refine Fk _ (Ak (i := 0) rfl) (by omega) ?_
        repeat' (first | refine rl7 ?_ | refine rs7 (fun h => ?_) (fun h => ?_) | fail)
        refine Ah hc ?_
        repeat' (first | refine rl7 ?_ | refine rs7 (fun h => ?_) (fun h => ?_) | fail)
        repeat' (first | refine rl0 ?_ | refine rs0 (fun h => ?_) (fun h => ?_) | fail)
        rfl
    | bin o a b h1 h2 ha hb =>
      obtain ⟨hka, hkb, hko⟩ := Zv hk (by omega) (by omega)
      have hw : H1 o ≠ 0 := by unfold H1; split <;> omega
      have hna : Bg a + Bg b + 1 = Bg (nd o [a, b]) := by rw [nd, A8, Be, Be, B2]; omega
      have hca := ih a (by have := Ga (x := nd o [a, b]) (y := a) (by simp [nd, Ex.args]); omega) ha (by omega) (by omega)
      have hcb := ih b (by have := Ga (x := nd o [a, b]) (y := b) (by simp [nd, Ex.args]); omega) hb (by omega) (by omega)
      have hva := Rb (vars := vars) hv ha (by omega)
      have hvb := Rb (vars := vars) hv hb (by omega)
      by_cases hlog : o = 17 \/ o = 18
      . rw [Ze _ _ o hlog]
        cases e : evX vars vals a with
        | none =>
          rw [e] at hca
          rcases hlog with rfl | rfl
          . refine Fh Tryz.func29 rfl rfl (Nat.le_of_ble_eq_true rfl) ?_
            repeat' (first | refine rl2 ?_ | refine rs2 (fun h => ?_) (fun h => ?_) | fail)
            refine b0w 5 (fun k => Nat.beq k 5 || Nat.beq k 6 || Nat.beq k 7) (fun k => Nat.beq k 5 || Nat.beq k 6 || Nat.beq k 7) [(0, [0]), (2, [1])] [(0, [0]), (2, [1])] (by dsimp only [mkE]) (by dsimp only [mkE, Fb, List.map]) ?_ ?_
            . repeat' (first | refine rl7 ?_ | refine rs7 (fun h => ?_) (fun h => ?_) | fail)
              refine Fk _ (Ak (i := 0) rfl) (by omega) ?_
              repeat' (first | refine rl7 ?_ | refine rs7 (fun h => ?_) (fun h => ?_) | fail)
              exact Ib (B4 rfl (hca).1 rfl rfl (Bh _) (hca).2) ⟨rfl, rfl, rfl⟩
            . repeat' (first | refine rl7 ?_ | refine rs7 (fun h => ?_) (fun h => ?_) | fail)
              refine Fk _ (Ak (i := 0) rfl) (by omega) ?_
              repeat' (first | refine rl7 ?_ | refine rs7 (fun h => ?_) (fun h => ?_) | fail)
              exact Ib (B4 rfl (hca).1 rfl rfl (Bh _) (hca).2) ⟨rfl, rfl, rfl⟩
          . refine Fh Tryz.func29 rfl rfl (Nat.le_of_ble_eq_true rfl) ?_
            repeat' (first | refine rl2 ?_ | refine rs2 (fun h => ?_) (fun h => ?_) | fail)
            refine b0w 5 (fun k => Nat.beq k 5 || Nat.beq k 6 || Nat.beq k 7) (fun k => Nat.beq k 5 || Nat.beq k 6 || Nat.beq k 7) [(0, [0]), (2, [1])] [(0, [0]), (2, [1])] (by dsimp only [mkE]) (by dsimp only [mkE, Fb, List.map]) ?_ ?_
            . repeat' (first | refine rl7 ?_ | refine rs7 (fun h => ?_) (fun h => ?_) | fail)
              refine Fk _ (Ak (i := 0) rfl) (by omega) ?_
              repeat' (first | refine rl7 ?_ | refine rs7 (fun h => ?_) (fun h => ?_) | fail)
              exact Ib (B4 rfl (hca).1 rfl rfl (Bh _) (hca).2) ⟨rfl, rfl, rfl⟩
            . repeat' (first | refine rl7 ?_ | refine rs7 (fun h => ?_) (fun h => ?_) | fail)
              refine Fk _ (Ak (i := 0) rfl) (by omega) ?_
              repeat' (first | refine rl7 ?_ | refine rs7 (fun h => ?_) (fun h => ?_) | fail)
              exact Ib (B4 rfl (hca).1 rfl rfl (Bh _) (hca).2) ⟨rfl, rfl, rfl⟩
        | some r =>
          rw [e] at hca
          obtain ⟨f, y⟩ := r
          rw [Option.bind_some]
          (try dsimp only)
          cases e2 : evX vars vals b with
          | none =>
            rw [e2] at hcb
            rcases hlog with rfl | rfl <;> cases y
            . show Aw _ _ _ (.ret (rsP (f, false))) _
              refine Af Tryz.func29 rfl rfl (Nat.le_of_ble_eq_true rfl) rfl (Nat.le_refl _) ?_
              repeat' (first | refine rl2 ?_ | refine rs2 (fun h => ?_) (fun h => ?_) | fail)
              refine b0 (fun k => Nat.beq k 6 || Nat.beq k 7) [(0, [0]), (2, [1])] ?_
              repeat' (first | refine rl7 ?_ | refine rs7 (fun h => ?_) (fun h => ?_) | fail)
              refine Fk _ (Ak (i := 0) rfl) (by omega) ?_
              repeat' (first | refine rl7 ?_ | refine rs7 (fun h => ?_) (fun h => ?_) | fail)
              refine Ah hca ?_
              repeat' (first | refine rl7 ?_ | refine rs7 (fun h => ?_) (fun h => ?_) | fail)
              repeat' (first | refine rl0 ?_ | refine rs0 (fun h => ?_) (fun h => ?_) | fail)
              rfl
            . refine Fh Tryz.func29 rfl rfl (Nat.le_of_ble_eq_true rfl) ?_
              repeat' (first | refine rl2 ?_ | refine rs2 (fun h => ?_) (fun h => ?_) | fail)
              refine b0 (fun k => Nat.beq k 6 || Nat.beq k 7) [(0, [0]), (2, [1])] ?_
              repeat' (first | refine rl7 ?_ | refine rs7 (fun h => ?_) (fun h => ?_) | fail)
              refine Fk _ (Ak (i := 0) rfl) (by omega) ?_
              repeat' (first | refine rl7 ?_ | refine rs7 (fun h => ?_) (fun h => ?_) | fail)
              refine Ah hca ?_
              repeat' (first | refine rl7 ?_ | refine rs7 (fun h => ?_) (fun h => ?_) | fail)
              repeat' (first | refine rl2 ?_ | refine rs2 (fun h => ?_) (fun h => ?_) | fail)
              refine b0 (fun k => Nat.beq k 5 || Nat.beq k 6) [(0, [0]), (2, [1])] ?_
              repeat' (first | refine rl7 ?_ | refine rs7 (fun h => ?_) (fun h => ?_) | fail)
              refine Fk _ (Ak (i := 1) rfl) (by omega) ?_
              repeat' (first | refine rl7 ?_ | refine rs7 (fun h => ?_) (fun h => ?_) | fail)
              exact Ib (B4 rfl (hcb).1 rfl rfl (Bh _) (hcb).2) ⟨rfl, rfl, rfl⟩
            . refine Fh Tryz.func29 rfl rfl (Nat.le_of_ble_eq_true rfl) ?_
              repeat' (first | refine rl2 ?_ | refine rs2 (fun h => ?_) (fun h => ?_) | fail)
              refine b0 (fun k => Nat.beq k 6 || Nat.beq k 7) [(0, [0]), (2, [1])] ?_
              repeat' (first | refine rl7 ?_ | refine rs7 (fun h => ?_) (fun h => ?_) | fail)
              refine Fk _ (Ak (i := 0) rfl) (by omega) ?_
              repeat' (first | refine rl7 ?_ | refine rs7 (fun h => ?_) (fun h => ?_) | fail)
              refine Ah hca ?_
              repeat' (first | refine rl7 ?_ | refine rs7 (fun h => ?_) (fun h => ?_) | fail)
              repeat' (first | refine rl2 ?_ | refine rs2 (fun h => ?_) (fun h => ?_) | fail)
              refine b0 (fun k => Nat.beq k 5 || Nat.beq k 6) [(0, [0]), (2, [1])] ?_
              repeat' (first | refine rl7 ?_ | refine rs7 (fun h => ?_) (fun h => ?_) | fail)
              refine Fk _ (Ak (i := 1) rfl) (by omega) ?_
              repeat' (first | refine rl7 ?_ | refine rs7 (fun h => ?_) (fun h => ?_) | fail)
              exact Ib (B4 rfl (hcb).1 rfl rfl (Bh _) (hcb).2) ⟨rfl, rfl, rfl⟩
            . show Aw _ _ _ (.ret (rsP (f, true))) _
              refine Af Tryz.func29 rfl rfl (Nat.le_of_ble_eq_true rfl) rfl (Nat.le_refl _) ?_
              repeat' (first | refine rl2 ?_ | refine rs2 (fun h => ?_) (fun h => ?_) | fail)
              refine b0 (fun k => Nat.beq k 6 || Nat.beq k 7) [(0, [0]), (2, [1])] ?_
              repeat' (first | refine rl7 ?_ | refine rs7 (fun h => ?_) (fun h => ?_) | fail)
              refine Fk _ (Ak (i := 0) rfl) (by omega) ?_
              repeat' (first | refine rl7 ?_ | refine rs7 (fun h => ?_) (fun h => ?_) | fail)
              refine Ah hca ?_
              repeat' (first | refine rl7 ?_ | refine rs7 (fun h => ?_) (fun h => ?_) | fail)
              repeat' (first | refine rl0 ?_ | refine rs0 (fun h => ?_) (fun h => ?_) | fail)
              rfl
          | some t =>
            rw [e2] at hcb
            rcases hlog with rfl | rfl <;> cases y
            . show Aw _ _ _ (.ret (rsP (f, false))) _
              refine Af Tryz.func29 rfl rfl (Nat.le_of_ble_eq_true rfl) rfl (Nat.le_refl _) ?_
              repeat' (first | refine rl2 ?_ | refine rs2 (fun h => ?_) (fun h => ?_) | fail)
              refine b0 (fun k => Nat.beq k 6 || Nat.beq k 7) [(0, [0]), (2, [1])] ?_
              repeat' (first | refine rl7 ?_ | refine rs7 (fun h => ?_) (fun h => ?_) | fail)
              refine Fk _ (Ak (i := 0) rfl) (by omega) ?_
              repeat' (first | refine rl7 ?_ | refine rs7 (fun h => ?_) (fun h => ?_) | fail)
              refine Ah hca ?_
              repeat' (first | refine rl7 ?_ | refine rs7 (fun h => ?_) (fun h => ?_) | fail)
              repeat' (first | refine rl0 ?_ | refine rs0 (fun h => ?_) (fun h => ?_) | fail)
              rfl
            . show Aw _ _ _ (.ret (rsP t)) _
              refine Af Tryz.func29 rfl rfl (Nat.le_of_ble_eq_true rfl) rfl (Nat.le_refl _) ?_
              repeat' (first | refine rl2 ?_ | refine rs2 (fun h => ?_) (fun h => ?_) | fail)
              refine b0 (fun k => Nat.beq k 6 || Nat.beq k 7) [(0, [0]), (2, [1])] ?_
              repeat' (first | refine rl7 ?_ | refine rs7 (fun h => ?_) (fun h => ?_) | fail)
              refine Fk _ (Ak (i := 0) rfl) (by omega) ?_
              repeat' (first | refine rl7 ?_ | refine rs7 (fun h => ?_) (fun h => ?_) | fail)
              refine Ah hca ?_
              repeat' (first | refine rl7 ?_ | refine rs7 (fun h => ?_) (fun h => ?_) | fail)
              repeat' (first | refine rl2 ?_ | refine rs2 (fun h => ?_) (fun h => ?_) | fail)
              refine b0 (fun k => Nat.beq k 6) [(0, [0]), (2, [1])] ?_
              repeat' (first | refine rl7 ?_ | refine rs7 (fun h => ?_) (fun h => ?_) | fail)
              refine Fk _ (Ak (i := 1) rfl) (by omega) ?_
              repeat' (first | refine rl7 ?_ | refine rs7 (fun h => ?_) (fun h => ?_) | fail)
              refine Dj hcb ?_
              repeat' (first | refine rl7 ?_ | refine rs7 (fun h => ?_) (fun h => ?_) | fail)
              repeat' (first | refine rl0 ?_ | refine rs0 (fun h => ?_) (fun h => ?_) | fail)
              rfl
            . show Aw _ _ _ (.ret (rsP t)) _
              refine Af Tryz.func29 rfl rfl (Nat.le_of_ble_eq_true rfl) rfl (Nat.le_refl _) ?_
              repeat' (first | refine rl2 ?_ | refine rs2 (fun h => ?_) (fun h => ?_) | fail)
              refine b0 (fun k => Nat.beq k 6 || Nat.beq k 7) [(0, [0]), (2, [1])] ?_
              repeat' (first | refine rl7 ?_ | refine rs7 (fun h => ?_) (fun h => ?_) | fail)
              refine Fk _ (Ak (i := 0) rfl) (by omega) ?_
              repeat' (first | refine rl7 ?_ | refine rs7 (fun h => ?_) (fun h => ?_) | fail)
              refine Ah hca ?_
              repeat' (first | refine rl7 ?_ | refine rs7 (fun h => ?_) (fun h => ?_) | fail)
              repeat' (first | refine rl2 ?_ | refine rs2 (fun h => ?_) (fun h => ?_) | fail)
              refine b0 (fun k => Nat.beq k 6) [(0, [0]), (2, [1])] ?_
              repeat' (first | refine rl7 ?_ | refine rs7 (fun h => ?_) (fun h => ?_) | fail)
              refine Fk _ (Ak (i := 1) rfl) (by omega) ?_
              repeat' (first | refine rl7 ?_ | refine rs7 (fun h => ?_) (fun h => ?_) | fail)
              refine Dj hcb ?_
              repeat' (first | refine rl7 ?_ | refine rs7 (fun h => ?_) (fun h => ?_) | fail)
              repeat' (first | refine rl0 ?_ | refine rs0 (fun h => ?_) (fun h => ?_) | fail)
              rfl
            . show Aw _ _ _ (.ret (rsP (f, true))) _
              refine Af Tryz.func29 rfl rfl (Nat.le_of_ble_eq_true rfl) rfl (Nat.le_refl _) ?_
              repeat' (first | refine rl2 ?_ | refine rs2 (fun h => ?_) (fun h => ?_) | fail)
              refine b0 (fun k => Nat.beq k 6 || Nat.beq k 7) [(0, [0]), (2, [1])] ?_
              repeat' (first | refine rl7 ?_ | refine rs7 (fun h => ?_) (fun h => ?_) | fail)
              refine Fk _ (Ak (i := 0) rfl) (by omega) ?_
              repeat' (first | refine rl7 ?_ | refine rs7 (fun h => ?_) (fun h => ?_) | fail)
              refine Ah hca ?_
              repeat' (first | refine rl7 ?_ | refine rs7 (fun h => ?_) (fun h => ?_) | fail)
              repeat' (first | refine rl0 ?_ | refine rs0 (fun h => ?_) (fun h => ?_) | fail)
              rfl
      . rw [Zg _ _ o h1 (by omega)]
        cases e : evX vars vals a with
        | none =>
          rw [e] at hca
          show Aw _ _ _ (.panic divV) _
          have ho : o = 7 \/ o = 8 \/ o = 9 \/ o = 10 \/ o = 11 \/ o = 12 \/ o = 13 \/ o = 14 \/ o = 15 \/ o = 16 := by omega
          rcases ho with rfl | rfl | rfl | rfl | rfl | rfl | rfl | rfl | rfl | rfl
          all_goals
            refine Fh Tryz.func29 rfl rfl (Nat.le_of_ble_eq_true rfl) ?_
            repeat' (first | refine rl2 ?_ | refine rs2 (fun h => ?_) (fun h => ?_) | fail)
            refine b0w 5 (fun k => Nat.beq k 5 || Nat.beq k 6 || Nat.beq k 7) (fun k => Nat.beq k 5 || Nat.beq k 6 || Nat.beq k 7) [(0, [0]), (2, [1])] [(0, [0]), (2, [1])] (by dsimp only [mkE]) (by dsimp only [mkE, Fb, List.map]) ?_ ?_
            . repeat' (first | refine rl7 ?_ | refine rs7 (fun h => ?_) (fun h => ?_) | fail)
              refine Fk _ (Ak (i := 0) rfl) (by omega) ?_
              repeat' (first | refine rl7 ?_ | refine rs7 (fun h => ?_) (fun h => ?_) | fail)
              exact Ib (B4 rfl (hca).1 rfl rfl (Bh _) (hca).2) ⟨rfl, rfl, rfl⟩
            . repeat' (first | refine rl7 ?_ | refine rs7 (fun h => ?_) (fun h => ?_) | fail)
              refine Fk _ (Ak (i := 0) rfl) (by omega) ?_
              repeat' (first | refine rl7 ?_ | refine rs7 (fun h => ?_) (fun h => ?_) | fail)
              exact Ib (B4 rfl (hca).1 rfl rfl (Bh _) (hca).2) ⟨rfl, rfl, rfl⟩
        | some r =>
          rw [e] at hca
          rw [Option.bind_some]
          (try dsimp only)
          cases e2 : evX vars vals b with
          | none =>
            rw [e2] at hcb
            show Aw _ _ _ (.panic divV) _
            have ho : o = 7 \/ o = 8 \/ o = 9 \/ o = 10 \/ o = 11 \/ o = 12 \/ o = 13 \/ o = 14 \/ o = 15 \/ o = 16 := by omega
            rcases ho with rfl | rfl | rfl | rfl | rfl | rfl | rfl | rfl | rfl | rfl
            all_goals
              refine Fh Tryz.func29 rfl rfl (Nat.le_of_ble_eq_true rfl) ?_
              repeat' (first | refine rl2 ?_ | refine rs2 (fun h => ?_) (fun h => ?_) | fail)
              refine b0 (fun k => Nat.beq k 6 || Nat.beq k 7) [(0, [0]), (2, [1])] ?_
              repeat' (first | refine rl7 ?_ | refine rs7 (fun h => ?_) (fun h => ?_) | fail)
              refine Fk _ (Ak (i := 0) rfl) (by omega) ?_
              repeat' (first | refine rl7 ?_ | refine rs7 (fun h => ?_) (fun h => ?_) | fail)
              refine Ah hca ?_
              repeat' (first | refine rl7 ?_ | refine rs7 (fun h => ?_) (fun h => ?_) | fail)
              repeat' (first | refine rl2 ?_ | refine rs2 (fun h => ?_) (fun h => ?_) | fail)
              refine b0w 5 (fun k => Nat.beq k 5 || Nat.beq k 6 || Nat.beq k 7) (fun k => Nat.beq k 5 || Nat.beq k 6 || Nat.beq k 7) [(0, [0]), (2, [1])] [(0, [0]), (2, [1])] (by dsimp only [mkE]) (by dsimp only [mkE, Fb, List.map]) ?_ ?_
              . repeat' (first | refine rl7 ?_ | refine rs7 (fun h => ?_) (fun h => ?_) | fail)
                refine Fk _ (Ak (i := 1) rfl) (by omega) ?_
                repeat' (first | refine rl7 ?_ | refine rs7 (fun h => ?_) (fun h => ?_) | fail)
                exact Ib (B4 rfl (hcb).1 rfl rfl (Bh _) (hcb).2) ⟨rfl, rfl, rfl⟩
              . repeat' (first | refine rl7 ?_ | refine rs7 (fun h => ?_) (fun h => ?_) | fail)
                refine Fk _ (Ak (i := 1) rfl) (by omega) ?_
                repeat' (first | refine rl7 ?_ | refine rs7 (fun h => ?_) (fun h => ?_) | fail)
                exact Ib (B4 rfl (hcb).1 rfl rfl (Bh _) (hcb).2) ⟨rfl, rfl, rfl⟩
          | some t =>
            rw [e2] at hcb
            rw [Option.bind_some]
            have hw1 : H1 o = 1 := by unfold H1; rw [if_neg (by omega)]
            obtain ⟨ra, ya⟩ := r
            obtain ⟨rb, yb⟩ := t
            have fa := ((hva _ e).1 (by omega)).1
            have fb := ((hvb _ e2).1 (by omega)).1
            have hcm := fcmp_do fa fb (by omega) (by omega)
            have hsg := nsign_do rb.1 rb.2
            by_cases hrel : 11 <= o
            . have hcp := cmpZ_do o (cmpF ra rb) hrel (by omega)
              unfold twoR
              rw [if_pos hrel]
              show Aw _ _ _ (.ret (rsP (zF, cmpZ o (cmpF ra rb)))) _
              refine Y8 ?_
              generalize cmpF ra rb = cv at *
              have ho : o = 11 \/ o = 12 \/ o = 13 \/ o = 14 \/ o = 15 \/ o = 16 := by omega
              rcases ho with rfl | rfl | rfl | rfl | rfl | rfl
              all_goals
                refine Af Tryz.func29 rfl rfl (Nat.le_of_ble_eq_true rfl) rfl (Nat.le_refl _) ?_
                repeat' (first | refine rl2 ?_ | refine rs2 (fun h => ?_) (fun h => ?_) | fail)
                refine b0 (fun k => Nat.beq k 6 || Nat.beq k 7) [(0, [0]), (2, [1])] ?_
                repeat' (first | refine rl7 ?_ | refine rs7 (fun h => ?_) (fun h => ?_) | fail)
                refine Fk _ (Ak (i := 0) rfl) (by omega) ?_
                repeat' (first | refine rl7 ?_ | refine rs7 (fun h => ?_) (fun h => ?_) | fail)
                refine Ah hca ?_
                repeat' (first | refine rl7 ?_ | refine rs7 (fun h => ?_) (fun h => ?_) | fail)
                repeat' (first | refine rl2 ?_ | refine rs2 (fun h => ?_) (fun h => ?_) | fail)
                refine b0 (fun k => Nat.beq k 6 || Nat.beq k 7) [(0, [0]), (2, [1])] ?_
                repeat' (first | refine rl7 ?_ | refine rs7 (fun h => ?_) (fun h => ?_) | fail)
                refine Fk _ (Ak (i := 1) rfl) (by omega) ?_
                repeat' (first | refine rl7 ?_ | refine rs7 (fun h => ?_) (fun h => ?_) | fail)
                refine Ah hcb ?_
                repeat' (first | refine rl7 ?_ | refine rs7 (fun h => ?_) (fun h => ?_) | fail)
                repeat' (first | refine rl2 ?_ | refine rs2 (fun h => ?_) (fun h => ?_) | fail)
                refine b0 (fun k => Nat.beq k 9) [(1, [1]), (3, [3]), (5, [4])] ?_
                repeat' (first | refine rl7 ?_ | refine rs7 (fun h => ?_) (fun h => ?_) | fail)
                refine Ah hcm ?_
                repeat' (first | refine rl7 ?_ | refine rs7 (fun h => ?_) (fun h => ?_) | fail)
                refine Ah hcp ?_
                repeat' (first | refine rl7 ?_ | refine rs7 (fun h => ?_) (fun h => ?_) | fail)
                repeat' (first | refine rl0 ?_ | refine rs0 (fun h => ?_) (fun h => ?_) | fail)
                rfl
            . have har := arith_do
              unfold twoR
              rw [if_neg hrel]
              have ho : o = 7 \/ o = 8 \/ o = 9 \/ o = 10 := by omega
              by_cases hz : o = 10 /\ rb.1 = 0
              . obtain ⟨rfl, hz⟩ := hz
                rw [if_pos ⟨rfl, hz⟩]
                show Aw _ _ _ (.panic divV) _
                rw [N2.2 hz] at hsg
                refine Fh Tryz.func29 rfl rfl (Nat.le_of_ble_eq_true rfl) ?_
                repeat' (first | refine rl2 ?_ | refine rs2 (fun h => ?_) (fun h => ?_) | fail)
                refine b0 (fun k => Nat.beq k 6 || Nat.beq k 7) [(0, [0]), (2, [1])] ?_
                repeat' (first | refine rl7 ?_ | refine rs7 (fun h => ?_) (fun h => ?_) | fail)
                refine Fk _ (Ak (i := 0) rfl) (by omega) ?_
                repeat' (first | refine rl7 ?_ | refine rs7 (fun h => ?_) (fun h => ?_) | fail)
                refine Ah hca ?_
                repeat' (first | refine rl7 ?_ | refine rs7 (fun h => ?_) (fun h => ?_) | fail)
                repeat' (first | refine rl2 ?_ | refine rs2 (fun h => ?_) (fun h => ?_) | fail)
                refine b0 (fun k => Nat.beq k 6 || Nat.beq k 7) [(0, [0]), (2, [1])] ?_
                repeat' (first | refine rl7 ?_ | refine rs7 (fun h => ?_) (fun h => ?_) | fail)
                refine Fk _ (Ak (i := 1) rfl) (by omega) ?_
                repeat' (first | refine rl7 ?_ | refine rs7 (fun h => ?_) (fun h => ?_) | fail)
                refine Ah hcb ?_
                repeat' (first | refine rl7 ?_ | refine rs7 (fun h => ?_) (fun h => ?_) | fail)
                repeat' (first | refine rl2 ?_ | refine rs2 (fun h => ?_) (fun h => ?_) | fail)
                refine wp1 hsg ?_
                repeat' (first | refine rl2 ?_ | refine rs2 (fun h => ?_) (fun h => ?_) | fail)
                refine Tk rfl (Aac rfl rfl) ?_
                exact ⟨rfl, rfl, rfl⟩
              . rw [if_neg hz]
                show Aw _ _ _ (.ret (rsP (ariF o ra rb, false))) _
                rcases ho with rfl | rfl | rfl | rfl
                . have hfn := fadd_do fa fb (by omega) (by omega)
                  show Aw _ _ _ (.ret (rsP (addF ra rb, false))) _
                  refine Af Tryz.func29 rfl rfl (Nat.le_of_ble_eq_true rfl) rfl (Nat.le_refl _) ?_
                  repeat' (first | refine rl2 ?_ | refine rs2 (fun h => ?_) (fun h => ?_) | fail)
                  refine b0 (fun k => Nat.beq k 6 || Nat.beq k 7) [(0, [0]), (2, [1])] ?_
                  repeat' (first | refine rl7 ?_ | refine rs7 (fun h => ?_) (fun h => ?_) | fail)
                  refine Fk _ (Ak (i := 0) rfl) (by omega) ?_
                  repeat' (first | refine rl7 ?_ | refine rs7 (fun h => ?_) (fun h => ?_) | fail)
                  refine Ah hca ?_
                  repeat' (first | refine rl7 ?_ | refine rs7 (fun h => ?_) (fun h => ?_) | fail)
                  repeat' (first | refine rl2 ?_ | refine rs2 (fun h => ?_) (fun h => ?_) | fail)
                  refine b0 (fun k => Nat.beq k 6 || Nat.beq k 7) [(0, [0]), (2, [1])] ?_
                  repeat' (first | refine rl7 ?_ | refine rs7 (fun h => ?_) (fun h => ?_) | fail)
                  refine Fk _ (Ak (i := 1) rfl) (by omega) ?_
                  repeat' (first | refine rl7 ?_ | refine rs7 (fun h => ?_) (fun h => ?_) | fail)
                  refine Ah hcb ?_
                  repeat' (first | refine rl7 ?_ | refine rs7 (fun h => ?_) (fun h => ?_) | fail)
                  repeat' (first | refine rl2 ?_ | refine rs2 (fun h => ?_) (fun h => ?_) | fail)
                  refine b0 (fun k => Nat.beq k 10) [(2, [1]), (5, [3]), (7, [4])] ?_
                  repeat' (first | refine rl7 ?_ | refine rs7 (fun h => ?_) (fun h => ?_) | fail)
                  refine Ah har ?_
                  repeat' (first | refine rl7 ?_ | refine rs7 (fun h => ?_) (fun h => ?_) | fail)
                  refine biv (j := 7) (by decide) ?_
                  repeat' (first | refine rl7 ?_ | refine rs7 (fun h => ?_) (fun h => ?_) | fail)
                  refine Ah hfn ?_
                  repeat' (first | refine rl7 ?_ | refine rs7 (fun h => ?_) (fun h => ?_) | fail)
                  repeat' (first | refine rl0 ?_ | refine rs0 (fun h => ?_) (fun h => ?_) | fail)
                  rfl
                . have hfn := fsub_do fa fb (by omega) (by omega)
                  show Aw _ _ _ (.ret (rsP (subF ra rb, false))) _
                  refine Af Tryz.func29 rfl rfl (Nat.le_of_ble_eq_true rfl) rfl (Nat.le_refl _) ?_
                  repeat' (first | refine rl2 ?_ | refine rs2 (fun h => ?_) (fun h => ?_) | fail)
                  refine b0 (fun k => Nat.beq k 6 || Nat.beq k 7) [(0, [0]), (2, [1])] ?_
                  repeat' (first | refine rl7 ?_ | refine rs7 (fun h => ?_) (fun h => ?_) | fail)
                  refine Fk _ (Ak (i := 0) rfl) (by omega) ?_
                  repeat' (first | refine rl7 ?_ | refine rs7 (fun h => ?_) (fun h => ?_) | fail)
                  refine Ah hca ?_
                  repeat' (first | refine rl7 ?_ | refine rs7 (fun h => ?_) (fun h => ?_) | fail)
                  repeat' (first | refine rl2 ?_ | refine rs2 (fun h => ?_) (fun h => ?_) | fail)
                  refine b0 (fun k => Nat.beq k 6 || Nat.beq k 7) [(0, [0]), (2, [1])] ?_
                  repeat' (first | refine rl7 ?_ | refine rs7 (fun h => ?_) (fun h => ?_) | fail)
                  refine Fk _ (Ak (i := 1) rfl) (by omega) ?_
                  repeat' (first | refine rl7 ?_ | refine rs7 (fun h => ?_) (fun h => ?_) | fail)
                  refine Ah hcb ?_
                  repeat' (first | refine rl7 ?_ | refine rs7 (fun h => ?_) (fun h => ?_) | fail)
                  repeat' (first | refine rl2 ?_ | refine rs2 (fun h => ?_) (fun h => ?_) | fail)
                  refine b0 (fun k => Nat.beq k 10) [(2, [1]), (5, [3]), (7, [4])] ?_
                  repeat' (first | refine rl7 ?_ | refine rs7 (fun h => ?_) (fun h => ?_) | fail)
                  refine Ah har ?_
                  repeat' (first | refine rl7 ?_ | refine rs7 (fun h => ?_) (fun h => ?_) | fail)
                  refine biv (j := 8) (by decide) ?_
                  repeat' (first | refine rl7 ?_ | refine rs7 (fun h => ?_) (fun h => ?_) | fail)
                  refine Ah hfn ?_
                  repeat' (first | refine rl7 ?_ | refine rs7 (fun h => ?_) (fun h => ?_) | fail)
                  repeat' (first | refine rl0 ?_ | refine rs0 (fun h => ?_) (fun h => ?_) | fail)
                  rfl
                . have hfn := fmul_do fa fb (by omega) (by omega)
                  show Aw _ _ _ (.ret (rsP (mulF ra rb, false))) _
                  refine Af Tryz.func29 rfl rfl (Nat.le_of_ble_eq_true rfl) rfl (Nat.le_refl _) ?_
                  repeat' (first | refine rl2 ?_ | refine rs2 (fun h => ?_) (fun h => ?_) | fail)
                  refine b0 (fun k => Nat.beq k 6 || Nat.beq k 7) [(0, [0]), (2, [1])] ?_
                  repeat' (first | refine rl7 ?_ | refine rs7 (fun h => ?_) (fun h => ?_) | fail)
                  refine Fk _ (Ak (i := 0) rfl) (by omega) ?_
                  repeat' (first | refine rl7 ?_ | refine rs7 (fun h => ?_) (fun h => ?_) | fail)
                  refine Ah hca ?_
                  repeat' (first | refine rl7 ?_ | refine rs7 (fun h => ?_) (fun h => ?_) | fail)
                  repeat' (first | refine rl2 ?_ | refine rs2 (fun h => ?_) (fun h => ?_) | fail)
                  refine b0 (fun k => Nat.beq k 6 || Nat.beq k 7) [(0, [0]), (2, [1])] ?_
                  repeat' (first | refine rl7 ?_ | refine rs7 (fun h => ?_) (fun h => ?_) | fail)
                  refine Fk _ (Ak (i := 1) rfl) (by omega) ?_
                  repeat' (first | refine rl7 ?_ | refine rs7 (fun h => ?_) (fun h => ?_) | fail)
                  refine Ah hcb ?_
                  repeat' (first | refine rl7 ?_ | refine rs7 (fun h => ?_) (fun h => ?_) | fail)
                  repeat' (first | refine rl2 ?_ | refine rs2 (fun h => ?_) (fun h => ?_) | fail)
                  refine b0 (fun k => Nat.beq k 10) [(2, [1]), (5, [3]), (7, [4])] ?_
                  repeat' (first | refine rl7 ?_ | refine rs7 (fun h => ?_) (fun h => ?_) | fail)
                  refine Ah har ?_
                  repeat' (first | refine rl7 ?_ | refine rs7 (fun h => ?_) (fun h => ?_) | fail)
                  refine biv (j := 9) (by decide) ?_
                  repeat' (first | refine rl7 ?_ | refine rs7 (fun h => ?_) (fun h => ?_) | fail)
                  refine Ah hfn ?_
                  repeat' (first | refine rl7 ?_ | refine rs7 (fun h => ?_) (fun h => ?_) | fail)
                  repeat' (first | refine rl0 ?_ | refine rs0 (fun h => ?_) (fun h => ?_) | fail)
                  rfl
                . have hb0 : rb.1 ≠ 0 := fun e => hz ⟨rfl, e⟩
                  have hfn := fdiv_do fa fb hb0 (by omega) (by omega)
                  show Aw _ _ _ (.ret (rsP (divF ra rb, false))) _
                  refine Af Tryz.func29 rfl rfl (Nat.le_of_ble_eq_true rfl) rfl (Nat.le_refl _) ?_
                  repeat' (first | refine rl2 ?_ | refine rs2 (fun h => ?_) (fun h => ?_) | fail)
                  refine b0 (fun k => Nat.beq k 6 || Nat.beq k 7) [(0, [0]), (2, [1])] ?_
                  repeat' (first | refine rl7 ?_ | refine rs7 (fun h => ?_) (fun h => ?_) | fail)
                  refine Fk _ (Ak (i := 0) rfl) (by omega) ?_
                  repeat' (first | refine rl7 ?_ | refine rs7 (fun h => ?_) (fun h => ?_) | fail)
                  refine Ah hca ?_
                  repeat' (first | refine rl7 ?_ | refine rs7 (fun h => ?_) (fun h => ?_) | fail)
                  repeat' (first | refine rl2 ?_ | refine rs2 (fun h => ?_) (fun h => ?_) | fail)
                  refine b0 (fun k => Nat.beq k 6 || Nat.beq k 7) [(0, [0]), (2, [1])] ?_
                  repeat' (first | refine rl7 ?_ | refine rs7 (fun h => ?_) (fun h => ?_) | fail)
                  refine Fk _ (Ak (i := 1) rfl) (by omega) ?_
                  repeat' (first | refine rl7 ?_ | refine rs7 (fun h => ?_) (fun h => ?_) | fail)
                  refine Ah hcb ?_
                  repeat' (first | refine rl7 ?_ | refine rs7 (fun h => ?_) (fun h => ?_) | fail)
                  repeat' (first | refine rl2 ?_ | refine rs2 (fun h => ?_) (fun h => ?_) | fail)
                  refine wp1 hsg ?_
                  repeat' (first | refine rl2 ?_ | refine rs2 (fun h => ?_) (fun h => ?_) | fail)
                  . exfalso; have := N2 (x := rb.1); simp at *; omega
                  refine b0 (fun k => Nat.beq k 10) [(2, [1]), (5, [3]), (7, [4])] ?_
                  repeat' (first | refine rl7 ?_ | refine rs7 (fun h => ?_) (fun h => ?_) | fail)
                  refine Ah har ?_
                  repeat' (first | refine rl7 ?_ | refine rs7 (fun h => ?_) (fun h => ?_) | fail)
                  refine biv (j := 10) (by decide) ?_
                  repeat' (first | refine rl7 ?_ | refine rs7 (fun h => ?_) (fun h => ?_) | fail)
                  refine Ah hfn ?_
                  repeat' (first | refine rl7 ?_ | refine rs7 (fun h => ?_) (fun h => ?_) | fail)
                  repeat' (first | refine rl0 ?_ | refine rs0 (fun h => ?_) (fun h => ?_) | fail)
                  rfl
    | ite a b c ha hb hc =>
      obtain ⟨hka, hkb, hkc⟩ := Zu hk
      have hna : Bg a + Bg b + Bg c + 1 = Bg (nd 19 [a, b, c]) := by rw [nd, A8, Be, Be, Be, B2]; omega
      have hca := ih a (by have := Ga (x := nd 19 [a, b, c]) (y := a) (by simp [nd, Ex.args]); omega) ha (by omega) (by omega)
      have hcb := ih b (by have := Ga (x := nd 19 [a, b, c]) (y := b) (by simp [nd, Ex.args]); omega) hb (by omega) (by omega)
      have hcc := ih c (by have := Ga (x := nd 19 [a, b, c]) (y := c) (by simp [nd, Ex.args]); omega) hc (by omega) (by omega)
      rw [Aeq]
      cases e : evX vars vals a with
      | none =>
        rw [e] at hca
        refine Fh Tryz.func29 rfl rfl (Nat.le_of_ble_eq_true rfl) ?_
        repeat' (first | refine rl2 ?_ | refine rs2 (fun h => ?_) (fun h => ?_) | fail)
        refine b0w 5 (fun k => Nat.beq k 5 || Nat.beq k 6 || Nat.beq k 7) (fun k => Nat.beq k 5 || Nat.beq k 6 || Nat.beq k 7) [(0, [0]), (2, [1])] [(0, [0]), (2, [1])] (by dsimp only [mkE]) (by dsimp only [mkE, Fb, List.map]) ?_ ?_
        . repeat' (first | refine rl7 ?_ | refine rs7 (fun h => ?_) (fun h => ?_) | fail)
          refine Fk _ (Ak (i := 0) rfl) (by omega) ?_
          repeat' (first | refine rl7 ?_ | refine rs7 (fun h => ?_) (fun h => ?_) | fail)
          exact Ib (B4 rfl (hca).1 rfl rfl (Bh _) (hca).2) ⟨rfl, rfl, rfl⟩
        . repeat' (first | refine rl7 ?_ | refine rs7 (fun h => ?_) (fun h => ?_) | fail)
          refine Fk _ (Ak (i := 0) rfl) (by omega) ?_
          repeat' (first | refine rl7 ?_ | refine rs7 (fun h => ?_) (fun h => ?_) | fail)
          exact Ib (B4 rfl (hca).1 rfl rfl (Bh _) (hca).2) ⟨rfl, rfl, rfl⟩
      | some r =>
        rw [e] at hca
        obtain ⟨f, y⟩ := r
        rw [Option.bind_some]
        (try dsimp only)
        cases y with
        | true =>
          rw [if_pos rfl]
          cases e2 : evX vars vals b with
          | none =>
            rw [e2] at hcb
            refine Fh Tryz.func29 rfl rfl (Nat.le_of_ble_eq_true rfl) ?_
            repeat' (first | refine rl2 ?_ | refine rs2 (fun h => ?_) (fun h => ?_) | fail)
            refine b0 (fun k => Nat.beq k 6 || Nat.beq k 7) [(0, [0]), (2, [1])] ?_
            repeat' (first | refine rl7 ?_ | refine rs7 (fun h => ?_) (fun h => ?_) | fail)
            refine Fk _ (Ak (i := 0) rfl) (by omega) ?_
            repeat' (first | refine rl7 ?_ | refine rs7 (fun h => ?_) (fun h => ?_) | fail)
            refine Ah hca ?_
            repeat' (first | refine rl7 ?_ | refine rs7 (fun h => ?_) (fun h => ?_) | fail)
            repeat' (first | refine rl2 ?_ | refine rs2 (fun h => ?_) (fun h => ?_) | fail)
            refine b0 (fun k => Nat.beq k 5 || Nat.beq k 6) [(0, [0]), (2, [1])] ?_
            repeat' (first | refine rl7 ?_ | refine rs7 (fun h => ?_) (fun h => ?_) | fail)
            refine Fk _ (Ak (i := 1) rfl) (by omega) ?_
            repeat' (first | refine rl7 ?_ | refine rs7 (fun h => ?_) (fun h => ?_) | fail)
            exact Ib (B4 rfl (hcb).1 rfl rfl (Bh _) (hcb).2) ⟨rfl, rfl, rfl⟩
          | some t =>
            rw [e2] at hcb
            show Aw _ _ _ (.ret (rsP t)) _
            refine Af Tryz.func29 rfl rfl (Nat.le_of_ble_eq_true rfl) rfl (Nat.le_refl _) ?_
            repeat' (first | refine rl2 ?_ | refine rs2 (fun h => ?_) (fun h => ?_) | fail)
            refine b0 (fun k => Nat.beq k 6 || Nat.beq k 7) [(0, [0]), (2, [1])] ?_
            repeat' (first | refine rl7 ?_ | refine rs7 (fun h => ?_) (fun h => ?_) | fail)
            refine Fk _ (Ak (i := 0) rfl) (by omega) ?_
            repeat' (first | refine rl7 ?_ | refine rs7 (fun h => ?_) (fun h => ?_) | fail)
            refine Ah hca ?_
            repeat' (first | refine rl7 ?_ | refine rs7 (fun h => ?_) (fun h => ?_) | fail)
            repeat' (first | refine rl2 ?_ | refine rs2 (fun h => ?_) (fun h => ?_) | fail)
            refine b0 (fun k => Nat.beq k 6) [(0, [0]), (2, [1])] ?_
            repeat' (first | refine rl7 ?_ | refine rs7 (fun h => ?_) (fun h => ?_) | fail)
            refine Fk _ (Ak (i := 1) rfl) (by omega) ?_
            repeat' (first | refine rl7 ?_ | refine rs7 (fun h => ?_) (fun h => ?_) | fail)
            refine Dj hcb ?_
            repeat' (first | refine rl7 ?_ | refine rs7 (fun h => ?_) (fun h => ?_) | fail)
            repeat' (first | refine rl0 ?_ | refine rs0 (fun h => ?_) (fun h => ?_) | fail)
            rfl
        | false =>
          rw [if_neg (by simp)]
          cases e2 : evX vars vals c with
          | none =>
            rw [e2] at hcc
            refine Fh Tryz.func29 rfl rfl (Nat.le_of_ble_eq_true rfl) ?_
            repeat' (first | refine rl2 ?_ | refine rs2 (fun h => ?_) (fun h => ?_) | fail)
            refine b0 (fun k => Nat.beq k 6 || Nat.beq k 7) [(0, [0]), (2, [1])] ?_
            repeat' (first | refine rl7 ?_ | refine rs7 (fun h => ?_) (fun h => ?_) | fail)
            refine Fk _ (Ak (i := 0) rfl) (by omega) ?_
            repeat' (first | refine rl7 ?_ | refine rs7 (fun h => ?_) (fun h => ?_) | fail)
            refine Ah hca ?_
            repeat' (first | refine rl7 ?_ | refine rs7 (fun h => ?_) (fun h => ?_) | fail)
            repeat' (first | refine rl2 ?_ | refine rs2 (fun h => ?_) (fun h => ?_) | fail)
            refine b0 (fun k => Nat.beq k 5 || Nat.beq k 6) [(0, [0]), (2, [1])] ?_
            repeat' (first | refine rl7 ?_ | refine rs7 (fun h => ?_) (fun h => ?_) | fail)
            refine Fk _ (Ak (i := 2) rfl) (by omega) ?_
            repeat' (first | refine rl7 ?_ | refine rs7 (fun h => ?_) (fun h => ?_) | fail)
            exact Ib (B4 rfl (hcc).1 rfl rfl (Bh _) (hcc).2) ⟨rfl, rfl, rfl⟩
          | some t =>
            rw [e2] at hcc
            show Aw _ _ _ (.ret (rsP t)) _
            refine Af Tryz.func29 rfl rfl (Nat.le_of_ble_eq_true rfl) rfl (Nat.le_refl _) ?_
            repeat' (first | refine rl2 ?_ | refine rs2 (fun h => ?_) (fun h => ?_) | fail)
            refine b0 (fun k => Nat.beq k 6 || Nat.beq k 7) [(0, [0]), (2, [1])] ?_
            repeat' (first | refine rl7 ?_ | refine rs7 (fun h => ?_) (fun h => ?_) | fail)
            refine Fk _ (Ak (i := 0) rfl) (by omega) ?_
            repeat' (first | refine rl7 ?_ | refine rs7 (fun h => ?_) (fun h => ?_) | fail)
            refine Ah hca ?_
            repeat' (first | refine rl7 ?_ | refine rs7 (fun h => ?_) (fun h => ?_) | fail)
            repeat' (first | refine rl2 ?_ | refine rs2 (fun h => ?_) (fun h => ?_) | fail)
            refine b0 (fun k => Nat.beq k 6) [(0, [0]), (2, [1])] ?_
            repeat' (first | refine rl7 ?_ | refine rs7 (fun h => ?_) (fun h => ?_) | fail)
            refine Fk _ (Ak (i := 2) rfl) (by omega) ?_
            repeat' (first | refine rl7 ?_ | refine rs7 (fun h => ?_) (fun h => ?_) | fail)
            refine Dj hcc ?_
            repeat' (first | refine rl7 ?_ | refine rs7 (fun h => ?_) (fun h => ?_) | fail)
            repeat' (first | refine rl0 ?_ | refine rs0 (fun h => ?_) (fun h => ?_) | fail)
            rfl
end Go.Proofs.YtjagmmmcibdibaaGreatDoor
namespace Go.Proofs.YtjagmmmcibdibaaGreatDoor.D4
open Go.RowKit
def Am : List Int -> Int
  | [] => 0
  | x :: r => x + 10000 * Am r
def Ad (x : Int) : Prop := 0 <= x /\ x < 10000
theorem A1 : ∀ {l : List Int}, (∀ x ∈ l, Ad x) -> 0 <= Am l
  | [], _ => by simp [Am]
  | x :: r, h => by
    have h1 := A1 (l := r) fun y hy => h y (List.mem_cons_of_mem _ hy)
    have h2 := (h x List.mem_cons_self).1
    simp only [Am]; omega
theorem Bx : ∀ (l r : List Int), Am (l ++ r) = Am l + 10000 ^ l.length * Am r
  | [], r => by simp [Am]
  | x :: l, r => by
    simp only [List.cons_append, Am, Bx l r, List.length_cons, Int.pow_succ]
    rw [Int.mul_add, <- Int.mul_assoc, Int.mul_comm (10000 ^ l.length) 10000]; omega
theorem Wq {l : List Int} {i : Nat} (h : i < l.length) : Am (l.drop i) = l.getD i 0 + 10000 * Am (l.drop (i + 1)) := by
  rw [List.drop_eq_getElem_cons h, Am, List.getD_eq_getElem?_getD, List.getElem?_eq_getElem h]; rfl
theorem Cn : ∀ {l : List Int}, (∀ x ∈ l, Ad x) -> Am l < 10000 ^ l.length
  | [], _ => by simp [Am]
  | x :: r, h => by
    have h1 := Cn (l := r) fun y hy => h y (List.mem_cons_of_mem _ hy)
    have h2 := (h x List.mem_cons_self).2
    simp only [Am, List.length_cons, Int.pow_succ]; omega
theorem Hs {l : List Int} (h : ∀ x ∈ l, Ad x) {i : Nat} (hi : i < l.length) : Ad (l.getD i 0) := by
  rw [List.getD_eq_getElem?_getD, List.getElem?_eq_getElem hi]; exact h _ (List.getElem_mem hi)
def Bs : List Int -> List Int
  | [] => []
  | x :: r => match Bs r with
    | [] => if x = 0 then [] else [x]
    | y :: s => x :: y :: s
theorem Lh : ∀ l, (Bs l).length <= l.length
  | [] => Nat.le_refl _
  | x :: r => by
    have h := Lh r
    unfold Bs
    split
    . rename_i e; split <;> simp
    . rename_i y s e; rw [e] at h; simp at h |-; omega
theorem Hg : ∀ (l : List Int) (x : Int), Bs (l ++ [x]) = if x = 0 then Bs l else l ++ [x]
  | [], x => by simp [Bs]
  | a :: l, x => by
    rw [List.cons_append, Bs, Hg l x]
    by_cases h : x = 0
    . simp only [if_pos h]; rw [Bs]
    . simp only [if_neg h]
      cases l with
      | nil => rfl
      | cons b l => rfl
theorem Lj : ∀ l, Am (Bs l) = Am l
  | [] => rfl
  | x :: r => by
    have h := Lj r
    unfold Bs
    split
    . rename_i e
      rw [e] at h; simp only [Am] at h |-
      split <;> simp [Am] <;> omega
    . rename_i y s e
      rw [e] at h
      rw [Am, h]; rfl
theorem Li {p : Int -> Prop} : ∀ {l : List Int}, (∀ x ∈ l, p x) -> ∀ x ∈ Bs l, p x
  | [], h => h
  | x :: r, h => by
    have h1 := Li (l := r) fun y hy => h y (List.mem_cons_of_mem _ hy)
    unfold Bs
    split
    . split
      . simp
      . intro y hy; simp at hy; subst hy; exact h _ List.mem_cons_self
    . rename_i y s e
      rw [e] at h1
      intro z hz
      rcases List.mem_cons.1 hz with rfl | hz
      . exact h _ List.mem_cons_self
      . exact h1 z hz
theorem A2 {l : List Int} (h : ∀ z ∈ l, Ad z) (i : Nat) : Ad (l.getD i 0) := by
  by_cases hi : i < l.length
  . exact Hs h hi
  . rw [List.getD_eq_getElem?_getD, List.getElem?_eq_none (by omega)]; exact ⟨by simp, by simp⟩
theorem Ahm {l : List Int} {i : Nat} {v : Int} (h : ∀ z ∈ l, Ad z) (hv : Ad v) : ∀ z ∈ l.set i v, Ad z := fun x hx => by
  rcases List.mem_or_eq_of_mem_set hx with h1 | rfl
  . exact h x h1
  . exact hv
def Ao (n : Nat) : List Int := if h : n = 0 then [] else ((n % 10000 : Nat) : Int) :: Ao (n / 10000)
termination_by n
decreasing_by omega
theorem Au : Ao 0 = [] := by rw [Ao]; rfl
theorem B9 {n : Nat} (h : n ≠ 0) : Ao n = ((n % 10000 : Nat) : Int) :: Ao (n / 10000) := by rw [Ao, dif_neg h]
theorem Bl (n : Nat) : Am (Ao n) = n := by
  induction n using Nat.strongRecOn with
  | ind n ih =>
    by_cases h : n = 0
    . subst h; rw [Au]; rfl
    . rw [B9 h, Am, ih _ (by omega)]; omega
theorem Bu (n : Nat) : ∀ x ∈ Ao n, Ad x := by
  induction n using Nat.strongRecOn with
  | ind n ih =>
    by_cases h : n = 0
    . subst h; rw [Au]; simp
    . rw [B9 h]
      intro x hx
      rcases List.mem_cons.1 hx with rfl | hx
      . exact ⟨by omega, by omega⟩
      . exact ih _ (by omega) x hx
theorem C6 {n : Nat} : Ao n = [] <-> n = 0 := by
  constructor
  . intro h; have := Bl n; rw [h] at this; simp only [Am] at this; omega
  . rintro rfl; exact Au
theorem Ns : ∀ {l : List Int}, (∀ x ∈ l, Ad x) -> Bs l = Ao (Am l).toNat
  | [], _ => by simp [Bs, Am, Au]
  | x :: r, h => by
    have hr := fun y hy => h y (List.mem_cons_of_mem x hy)
    have h1 := Ns hr
    have h0 := A1 hr
    obtain ⟨h2, h3⟩ := h x List.mem_cons_self
    rw [Bs, Am]
    by_cases hz : Am r = 0
    . rw [h1, hz]
      simp only [Int.toNat_zero, Au]
      split
      . rename_i e; subst e; simp [Au]
      . rename_i e
        rw [B9 (by omega)]
        simp only [Int.mul_zero, Int.add_zero]
        rw [show x.toNat / 10000 = 0 by omega, Au]
        congr 1; omega
    . rw [h1]
      have hn : Ao (Am r).toNat ≠ [] := by rw [Ne, C6]; omega
      rw [B9 (n := (x + 10000 * Am r).toNat) (by omega), show (x + 10000 * Am r).toNat / 10000 = (Am r).toNat by omega]
      split
      . rename_i e; exact absurd e hn
      . rename_i y s e; rw [e]; congr 1; omega
theorem Kr {n k : Nat} (h : n < 10000 ^ k) : (Ao n).length <= k := by
  induction k generalizing n with
  | zero => simp at h; subst h; rw [Au]; exact Nat.le_refl _
  | succ k ih =>
    by_cases hn : n = 0
    . subst hn; rw [Au]; simp
    . rw [B9 hn]
      have := ih (n := n / 10000) (by rw [Nat.pow_succ] at h; omega)
      simp; exact this
theorem Ks {n k : Nat} (h : (Ao n).length <= k) : n < 10000 ^ k := by
  induction k generalizing n with
  | zero => have : Ao n = [] := List.length_eq_zero_iff.1 (by omega)
            rw [C6] at this; subst this; decide
  | succ k ih =>
    by_cases hn : n = 0
    . subst hn; exact Nat.pow_pos (by decide)
    . rw [B9 hn] at h
      have := ih (n := n / 10000) (by simpa using h)
      rw [Nat.pow_succ]; omega
theorem Bc (l : List Int) : ∀ i, Am (l.take (i + 1)) = Am (l.take i) + 10000 ^ i * l.getD i 0 := by
  intro i
  by_cases h : i < l.length
  . rw [List.take_succ_eq_append_getElem h, Bx, List.length_take, Nat.min_eq_left (by omega), List.getD_eq_getElem?_getD, List.getElem?_eq_getElem h]
    simp [Am]
  . rw [List.take_of_length_le (by omega), List.take_of_length_le (by omega), List.getD_eq_getElem?_getD, List.getElem?_eq_none (by omega)]; simp
theorem Gv {a b : Nat} (h : a <= b) : (10000 : Int) ^ a <= 10000 ^ b := by
  have h1 : ((10000 ^ a : Nat) : Int) <= ((10000 ^ b : Nat) : Int) := Int.ofNat_le.2 (Nat.pow_le_pow_right (by decide) h)
  rw [Int.natCast_pow, Int.natCast_pow] at h1; exact h1
theorem Jl (k : Nat) : (0 : Int) < 10000 ^ k := Int.pow_pos (by decide)
def A0 (m o : List Int) : Nat -> List Int × Int
  | 0 => ([], 0)
  | i + 1 => ((A0 m o i).1 ++ [(if m.getD i 0 - (A0 m o i).2 - o.getD i 0 < 0 then m.getD i 0 - (A0 m o i).2 - o.getD i 0 + 10000 else m.getD i 0 - (A0 m o i).2 - o.getD i 0)], if m.getD i 0 - (A0 m o i).2 - o.getD i 0 < 0 then 1 else 0)
def Jw (m o : List Int) : List Int := (A0 m o m.length).1
theorem Bv (m o : List Int) : ∀ i, (A0 m o i).1.length = i
  | 0 => rfl
  | i + 1 => by simp [A0, Bv m o i]
theorem G6 {m o : List Int} (hm : ∀ z ∈ m, Ad z) (ho : ∀ z ∈ o, Ad z) : ∀ i, (∀ z ∈ (A0 m o i).1, Ad z) /\ 0 <= (A0 m o i).2 /\ (A0 m o i).2 <= 1
  | 0 => by simp [A0]
  | i + 1 => by
    obtain ⟨h1, h2, h3⟩ := G6 hm ho i
    obtain ⟨h4, h5⟩ := A2 hm i
    obtain ⟨h6, h7⟩ := A2 ho i
    simp only [A0]
    refine ⟨fun z hz => ?_, by split <;> omega, by split <;> omega⟩
    rcases List.mem_append.1 hz with hz | hz
    . exact h1 z hz
    . rw [List.mem_singleton] at hz; subst hz; unfold Ad; split <;> omega
theorem G7 (m o : List Int) : ∀ i, Am (A0 m o i).1 - 10000 ^ i * (A0 m o i).2 = Am (m.take i) - Am (o.take i)
  | 0 => by simp [A0, Am]
  | i + 1 => by
    have h := G7 m o i
    rw [Bc, Bc, A0, Bx, Bv]
    simp only [Am]
    rw [Int.pow_succ]
    split <;> grind
theorem Lx {m o : List Int} (hm : ∀ z ∈ m, Ad z) (ho : ∀ z ∈ o, Ad z) (hl : o.length <= m.length) (hv : Am o <= Am m) : Am (Jw m o) = Am m - Am o /\ (∀ z ∈ Jw m o, Ad z) /\ (Jw m o).length = m.length := by
  have h := G7 m o m.length
  rw [List.take_length, List.take_of_length_le hl] at h
  obtain ⟨h1, h2, h3⟩ := G6 hm ho m.length
  have h4 := Bv m o m.length
  have h5 := Cn h1
  rw [h4] at h5
  have hb : (A0 m o m.length).2 = 0 := by
    rcases (show (A0 m o m.length).2 = 0 \/ (A0 m o m.length).2 = 1 by omega) with e | e
    . exact e
    . rw [e] at h; simp at h; omega
  rw [hb] at h
  exact ⟨by unfold Jw; omega, h1, h4⟩
def T6 (m o : List Int) : Nat -> Int
  | 0 => 0
  | i + 1 => if m.getD i 0 < o.getD i 0 then -1 else if o.getD i 0 < m.getD i 0 then 1 else T6 m o i
theorem Kg {m o : List Int} (hm : ∀ z ∈ m, Ad z) (ho : ∀ z ∈ o, Ad z) : ∀ i, T6 m o i = Cx (Am (m.take i)) (Am (o.take i))
  | 0 => by simp [T6, Am, Cx]
  | i + 1 => by
    have h := Kg hm ho i
    rw [Bc, Bc, T6]
    have h1 := Cn (l := m.take i) fun z hz => hm z (List.mem_of_mem_take hz)
    have h2 := Cn (l := o.take i) fun z hz => ho z (List.mem_of_mem_take hz)
    have h3 := A1 (l := m.take i) fun z hz => hm z (List.mem_of_mem_take hz)
    have h4 := A1 (l := o.take i) fun z hz => ho z (List.mem_of_mem_take hz)
    have h5 : (10000 : Int) ^ (m.take i).length <= 10000 ^ i := Gv (by rw [List.length_take]; omega)
    have h6 : (10000 : Int) ^ (o.take i).length <= 10000 ^ i := Gv (by rw [List.length_take]; omega)
    have h7 := Jl i
    split
    . rename_i hlt
      have h8 : (10000 : Int) ^ i * (m.getD i 0 + 1) <= 10000 ^ i * o.getD i 0 := Int.mul_le_mul_of_nonneg_left (by omega) (by omega)
      rw [Int.mul_add] at h8
      rw [Cx, if_pos (by omega)]
    . split
      . rename_i hlt
        have h8 : (10000 : Int) ^ i * (o.getD i 0 + 1) <= 10000 ^ i * m.getD i 0 := Int.mul_le_mul_of_nonneg_left (by omega) (by omega)
        rw [Int.mul_add] at h8
        rw [Cx, if_neg (by omega), if_pos (by omega)]
      . have e : m.getD i 0 = o.getD i 0 := by omega
        rw [h, e]; unfold Cx
        congr 1
        . simp
        . congr 1; simp
def cmpL (m o : List Int) : Int := if m.length < o.length then -1 else if o.length < m.length then 1 else T6 m o m.length
theorem Hr {n : Nat} (h : n ≠ 0) : 10000 ^ ((Ao n).length - 1) <= n := by
  induction n using Nat.strongRecOn with
  | ind n ih =>
    rw [B9 h]
    simp only [List.length_cons, Nat.add_sub_cancel]
    by_cases h2 : n / 10000 = 0
    . rw [h2, Au]; simp; omega
    . have := ih _ (by omega) h2
      have hl : (Ao (n / 10000)).length ≠ 0 := by rw [Ne, List.length_eq_zero_iff, C6]; exact h2
      obtain ⟨k, hk⟩ : ∃ k, (Ao (n / 10000)).length = k + 1 := ⟨(Ao (n / 10000)).length - 1, by omega⟩
      rw [hk] at this |-
      simp only [Nat.add_sub_cancel] at this
      rw [Nat.pow_succ]; omega
theorem Kh (a b : Nat) : cmpL (Ao a) (Ao b) = Cx a b := by
  unfold cmpL
  have ha := Cn (Bu a)
  have hb := Cn (Bu b)
  rw [Bl] at ha hb
  split
  . rename_i h
    have h0 : b ≠ 0 := by rintro rfl; rw [Au] at h; simp at h
    have h1 := Hr h0
    have h2 : (10000 : Int) ^ (Ao a).length <= 10000 ^ ((Ao b).length - 1) := Gv (by omega)
    have h3 : ((10000 ^ ((Ao b).length - 1) : Nat) : Int) <= b := by exact_mod_cast h1
    rw [Int.natCast_pow] at h3
    rw [Cx, if_pos]; exact Int.lt_of_lt_of_le ha (Int.le_trans h2 h3)
  . split
    . rename_i h
      have h0 : a ≠ 0 := by rintro rfl; rw [Au] at h; simp at h
      have h1 := Hr h0
      have h2 : (10000 : Int) ^ (Ao b).length <= 10000 ^ ((Ao a).length - 1) := Gv (by omega)
      have h3 : ((10000 ^ ((Ao a).length - 1) : Nat) : Int) <= a := by exact_mod_cast h1
      rw [Int.natCast_pow] at h3
      have h4 := Int.lt_of_lt_of_le hb (Int.le_trans h2 h3)
      rw [Cx, if_neg (by omega), if_pos h4]
    . have he : (Ao a).length = (Ao b).length := by omega
      rw [Kg (Bu a) (Bu b), List.take_length, he, List.take_length, Bl, Bl]
theorem H0 : ∀ {l : List Int} {j : Nat} {v : Int}, j < l.length -> Am (l.set j v) = Am l + 10000 ^ j * (v - l.getD j 0)
  | x :: r, 0, v, _ => by simp [Am]; omega
  | x :: r, j + 1, v, h => by
    have h1 := H0 (l := r) (j := j) (v := v) (by simpa using h)
    simp only [List.set_cons_succ, Am, h1, List.getD_cons_succ, Int.pow_succ]
    grind
theorem Kp {l : List Int} {i j : Nat} {v : Int} (h : i ≠ j) : (l.set i v).getD j 0 = l.getD j 0 := by
  simp only [List.getD_eq_getElem?_getD, List.getElem?_set_ne h]
theorem Aa6 (n : Nat) : Am (List.replicate n 0) = 0 := by
  induction n with
  | zero => rfl
  | succ n ih => rw [List.replicate_succ, Am, ih]; rfl
end Go.Proofs.YtjagmmmcibdibaaGreatDoor.D4
namespace Go.Proofs.YtjagmmmcibdibaaGreatDoor
open Go.RowKit
theorem N4 {n : Nat} (h : n < 10) : Lib.decDigits n = [UInt8.ofNat (48 + n)] := by rw [Lib.decDigits, dif_pos h]
theorem Aeg {n : Nat} (h : ¬ n < 10) : Lib.decDigits n = Lib.decDigits (n / 10) ++ [UInt8.ofNat (48 + n % 10)] := by rw [Lib.decDigits, dif_neg h]
end Go.Proofs.YtjagmmmcibdibaaGreatDoor
namespace Go.Proofs.YtjagmmmcibdibaaGreatDoor
open Go.RowKit
set_option maxRecDepth 100000 in
set_option maxHeartbeats 1000000 in
theorem bld_used (b : Nat) (w : World) (h0 : w.cell? ⟨b, 0, none⟩ = some (.pointer (some ⟨b, 0, none⟩))) :
    Calls Tryz.prog 123 #[.pointer (some ⟨b, 0, none⟩)] w fun e w' => e = .returned (.tuple #[]) /\ w' = w := by
  obtain ⟨j, hj, _⟩ : ∃ j, Tryz.prog.info? 151 = some j /\ j.size = 2 := Option.map_eq_some_iff.1 (by kernel_rfl)
  go_enter Tryz.func123, Tryz.ntmps123
  go_wp2
  rw [Lib.run_neq_ptr_same w _ Tryz.underlying149 hj]
  go_wp2
  go_end0
  exact ⟨rfl, rfl⟩
set_option maxRecDepth 100000 in
set_option maxHeartbeats 1000000 in
theorem Ad3 (b : Nat) (w : World) (h0 : w.cell? ⟨b, 0, none⟩ = some (.pointer none)) (hsh : w.shape? b = some (151, 2)) (hfz : w.frozen? ⟨b, 0, none⟩ = false) :
    Calls Tryz.prog 123 #[.pointer (some ⟨b, 0, none⟩)] w fun e w' => e = .returned (.tuple #[]) /\ w' = w.setCell ⟨b, 0, none⟩ (.pointer (some ⟨b, 0, none⟩)) := by
  obtain ⟨j, hj, hjs⟩ : ∃ j, Tryz.prog.info? 151 = some j /\ j.size = 2 := Option.map_eq_some_iff.1 (by kernel_rfl)
  go_enter Tryz.func123, Tryz.ntmps123
  go_wp2
  rw [Lib.run_to_unsafe w ⟨b, 0, none⟩ Tryz.underlying149 Tryz.underlying216 hj (by rw [hjs]; decide) hsh (Nat.zero_lt_succ 1)]
  simp only [Result.andThen]
  rw [Oper.upon_value]
  go_wp2
  rw [run_callFunc_extern Tryz.func157 (by kernel_rfl) (by kernel_rfl) (by kernel_rfl) (e := Extern.AbiNoEscape.same) (by kernel_rfl)]
  rw [Lib.run_noEscape]
  simp only [Result.andThen]
  rw [Oper.upon_value]
  go_wp2
  rw [Lib.run_from_unsafe w ⟨b, 0, none⟩ Tryz.underlying216 Tryz.underlying149 hj hsh (by kernel_rfl)]
  simp only [Result.andThen]
  rw [Oper.upon_value]
  go_wp2
  go_end0
  exact ⟨rfl, rfl⟩
theorem Tw (B b : Nat) (bs : List Value) (w : World) (h : Lib.IsBuilder 151 5 B b bs w) :
    Calls Tryz.prog 123 #[.pointer (some ⟨b, 0, none⟩)] w fun e w' => e = .returned (.tuple #[]) /\ (Lib.BuilderAt 151 5 B b (.pointer (some ⟨b, 0, none⟩)) bs w' /\ Below B w w') := by
  rcases h with h | h
  . refine (Ad3 b w h.cell0 h.shape h.frozen0).mono ?_
    rintro e w' ⟨rfl, rfl⟩
    exact ⟨rfl, h.used _, (Below.refl B w).setCell (p := ⟨b, 0, none⟩) h.1 _⟩
  . refine (bld_used b w h.cell0).mono ?_
    rintro e w' ⟨rfl, rfl⟩
    exact ⟨rfl, h, Below.refl B _⟩
set_option maxHeartbeats 2000000 in
set_option maxRecDepth 100000 in
theorem Fx (B b : Nat) (bs : List Value) (s : ByteArray) (w : World) (h : Lib.IsBuilder 151 5 B b bs w) (hlen : bs.length + s.size <= 140737488355328) (hBw : B <= w.heap.size) :
    Calls Tryz.prog 92 #[.pointer (some ⟨b, 0, none⟩), .string s] w fun e w' => e = .returned (.tuple #[.int .i64 s.size, .nilIface]) /\ (Lib.BuilderAt 151 5 B b (.pointer (some ⟨b, 0, none⟩)) (bs ++ Lib.strCells s) w' /\ Below B w w') := by
  obtain ⟨i0, hi, hz0, hz1, hz2⟩ := info_parts (P := Tryz.prog) (e := 5) (size := 1) (bytes := 1) (z := .int .u8 0) (by kernel_rfl)
  go_enter Tryz.func92, Tryz.ntmps92
  go_wp2_with (go_at_call 123; refine (Tw B b bs _ h).mono ?_)
  rintro e w1 ⟨rfl, h1, hb1⟩
  obtain ⟨hB, v, hbk, hown, hne⟩ := h1
  have c0 : w1.cell? ⟨b, 0, none⟩ = some (.pointer (some ⟨b, 0, none⟩)) := by rw [Lib.cell_of_heap hbk]; rfl
  have c1 : w1.cell? ⟨b, 1, none⟩ = some v := by rw [Lib.cell_of_heap hbk]; rfl
  go_wp2_with (at_builtin; refine Lib.wpList_append_own_string _ rfl _ _ 25 9 rfl B 5 i0 Tryz.underlying25 Tryz.underlying9 hi hz0 hz1 hz2 _ _ _ rfl hown s rfl ?c3 ?c4 ?c5 ?_)
  case c3 => unfold maxLen; omega
  case c4 => omega
  case c5 => have := hb1.size; omega
  intro v' w2 hown' hgrow _
  have hlt : b < w1.heap.size := by
    rcases Nat.lt_or_ge b w1.heap.size with h' | h'
    . exact h'
    . simp [Array.getElem?_eq_none h'] at hbk
  have hb2 : w2.heap[b]? = some (.cells #[.pointer (some ⟨b, 0, none⟩), v] 151 (0, 0)) := by
    rw [hgrow.block b hlt (fun e => hne e.symm)]
    exact hbk
  have d0 : w2.cell? ⟨b, 0, none⟩ = some (.pointer (some ⟨b, 0, none⟩)) := by rw [Lib.cell_of_heap hb2]; rfl
  have d1 : w2.cell? ⟨b, 1, none⟩ = some v := by rw [Lib.cell_of_heap hb2]; rfl
  have f1 : w2.frozen? ⟨b, 1, none⟩ = false := Lib.frozen_of_heap hb2 1
  obtain ⟨ao, n', cap, rfl⟩ : ∃ ao n' cap, v' = .slice ao n' cap := by
    rcases hown'.2 with ⟨hv, _⟩ | ⟨g, cap, cur, hv, _⟩
    . exact ⟨_, _, _, hv⟩
    . exact ⟨_, _, _, hv⟩
  go_wp2
  go_ret2
  refine ⟨rfl, ?_, ?_⟩
  . exact Lib.BuilderAt.put (T := 151) (e := 5) hB hb2 (bs' := bs ++ Lib.strCells s) (by simpa [Lib.strCells_length] using hown') (by decide)
  . exact (hb1.grown hgrow (by have := hb1.size; omega) (fun k hk => (hown.lt k hk).1)).setCell (p := ⟨b, 1, none⟩) hB _
set_option maxHeartbeats 2000000 in
set_option maxRecDepth 100000 in
theorem bld_byte (B b : Nat) (bs : List Value) (c : Int) (w : World) (h : Lib.IsBuilder 151 5 B b bs w) (hlen : bs.length + 1 <= 140737488355328) (hBw : B <= w.heap.size) :
    Calls Tryz.prog 90 #[.pointer (some ⟨b, 0, none⟩), .int .u8 c] w fun e w' => e = .returned .nilIface /\ (Lib.BuilderAt 151 5 B b (.pointer (some ⟨b, 0, none⟩)) (bs ++ [.int .u8 c]) w' /\ Below B w w') := by
  obtain ⟨i0, hi, hz0, hz1, hz2⟩ := info_parts (P := Tryz.prog) (e := 5) (size := 1) (bytes := 1) (z := .int .u8 0) (by kernel_rfl)
  go_enter Tryz.func90, Tryz.ntmps90
  go_wp2_with (go_at_call 123; refine (Tw B b bs _ h).mono ?_)
  rintro e w1 ⟨rfl, h1, hb1⟩
  obtain ⟨hB, v, hbk, hown, hne⟩ := h1
  have c0 : w1.cell? ⟨b, 0, none⟩ = some (.pointer (some ⟨b, 0, none⟩)) := by rw [Lib.cell_of_heap hbk]; rfl
  have c1 : w1.cell? ⟨b, 1, none⟩ = some v := by rw [Lib.cell_of_heap hbk]; rfl
  go_wp2_with (at_builtin; refine wpList_append_own _ rfl _ _ 25 rfl B 5 i0 (.int .u8 0) 1 1 Tryz.underlying25 hi hz0 hz1 hz2 rfl (by decide) _ _ _ rfl (hown.alloc _) ⟨w1.heap.size, 0, none⟩ 1 1 [.int .u8 c] rfl rfl ?c1 ?c2 ?c3 ?c4 ?c5 ?_)
  case c1 =>
    intro j u hj
    match j, hj with
    | 0, hj => simp at hj; subst hj; simp [Addr.add]
  case c2 => intro u hu; simp at hu; subst hu; rfl
  case c3 => unfold maxLen; omega
  case c4 => omega
  case c5 => have := hb1.size; simp; omega
  intro v' w2 hown' hgrow _
  have hlt : b < w1.heap.size := by
    rcases Nat.lt_or_ge b w1.heap.size with h' | h'
    . exact h'
    . simp [Array.getElem?_eq_none h'] at hbk
  have hb2 : w2.heap[b]? = some (.cells #[.pointer (some ⟨b, 0, none⟩), v] 151 (0, 0)) := by
    rw [hgrow.block b (by simp; omega) (fun e => hne e.symm), Lib.alloc_old w1 _ b hlt]
    exact hbk
  have d0 : w2.cell? ⟨b, 0, none⟩ = some (.pointer (some ⟨b, 0, none⟩)) := by rw [Lib.cell_of_heap hb2]; rfl
  have d1 : w2.cell? ⟨b, 1, none⟩ = some v := by rw [Lib.cell_of_heap hb2]; rfl
  have f1 : w2.frozen? ⟨b, 1, none⟩ = false := Lib.frozen_of_heap hb2 1
  obtain ⟨g, cap, rfl⟩ : ∃ g cap, v' = .slice (some ⟨g, 0, none⟩) (bs.length + 1) cap := by
    rcases hown'.2 with ⟨_, h0⟩ | ⟨g, cap, cur, hv, _⟩
    . omega
    . exact ⟨g, cap, hv⟩
  go_wp2
  go_ret
  refine ⟨rfl, ?_, ?_⟩
  . exact Lib.BuilderAt.put (T := 151) (e := 5) hB hb2 (bs' := bs ++ [.int .u8 c]) (by simpa using hown') (by decide)
  . exact ((hb1.alloc (by have := hb1.size; omega) _).grown hgrow (by have := hb1.size; simp; omega) (fun k hk => (hown.lt k hk).1)).setCell (p := ⟨b, 1, none⟩) hB _
end Go.Proofs.YtjagmmmcibdibaaGreatDoor
namespace Go.Proofs.YtjagmmmcibdibaaGreatDoor
open Go.RowKit
attribute [local go_sem] Oper.semAt_some
def J0 : List Int -> List UInt8
  | [] => []
  | [x] => Lib.itoa x
  | x :: y :: r => J0 (y :: r) ++ ((List.replicate 9 48).drop (Lib.itoa x).length ++ Lib.itoa x)
def Pc (neg : Bool) (l : List Int) : List UInt8 := if l = [] then [48] else (if neg then [45] else []) ++ J0 l
theorem Afv : ∀ (k u : Nat), u < 10 ^ (k + 1) -> Lib.nDigits u <= k + 1
  | 0, u, h => by rw [Lib.nDigits_small (by omega)]; exact Nat.le_refl _
  | k + 1, u, h => by
    rw [Lib.nDigits]
    split
    . omega
    . have := Afv k (u / 10) (by rw [Nat.pow_succ] at h; omega)
      omega
theorem Nd {x : Int} (h : Ad x) : (Lib.itoa x).length <= 9 := by
  obtain ⟨n, rfl⟩ := Int.eq_ofNat_of_zero_le h.1
  rw [show ((n : Nat) : Int) = Int.ofNat n from rfl] at *
  rw [show Int.ofNat n = (n : Int) from rfl, Lib.itoa_nonneg, Lib.decDigits_length]
  have h2 := h.2
  exact Afv 8 n (by rw [show Int.ofNat n = (n : Int) from rfl] at h2; omega)
theorem Lk : ∀ {l : List Int}, (∀ x ∈ l, Ad x) -> (J0 l).length <= 9 * l.length
  | [], _ => by simp [J0]
  | [x], h => by have := Nd (h x List.mem_cons_self); simpa [J0] using this
  | x :: y :: r, h => by
    have h1 := Lk (l := y :: r) fun z hz => h z (List.mem_cons_of_mem _ hz)
    have h2 := Nd (h x List.mem_cons_self)
    simp only [J0, List.length_append, List.length_drop, List.length_replicate, List.length_cons] at h1 |-
    omega
theorem lims_of {G : Nat -> Nat -> Prop} {w : World} {sl : Value} {l : List Int} (h : Cj G w (.sl 1 (l.map B8)) sl) : ∃ p cap, sl = .slice p l.length cap /\ l.length <= cap /\ cap <= 9223372036854775807 /\
    ∀ (j : Nat), j < l.length -> ∃ b o, p = some ⟨b, o, none⟩ /\ w.cell? ⟨b, o + j, none⟩ = some (.int .u32 (l.getD j 0)) := by
  simp only [Cj] at h
  obtain ⟨p, cap, rfl, h1, h2, h3⟩ := h
  simp only [List.length_map] at h1 h3
  refine ⟨p, cap, by simp, h1, h2, fun j hlt => ?_⟩
  obtain ⟨b, o, rfl, h4, h5⟩ := h3 (by intro e; simp at e; subst e; simp at hlt)
  have h6 := Iw (j := j) (e := B8 l[j]) h5 (by simp [hlt])
  simp only [Aq] at h6
  obtain ⟨⟨u0, c0, r0⟩, _⟩ := h6
  simp only [Cj] at r0
  rw [r0.1, Nat.mul_one] at c0
  refine ⟨b, o, rfl, ?_⟩
  rw [c0, List.getD_eq_getElem?_getD, List.getElem?_eq_getElem hlt]; rfl
theorem Tv {T e : TypeId} {B b : Nat} {bs : List Value} {w w' : World} (h : Lib.IsBuilder T e B b bs w) (hb : Below w.heap.size w w') : Lib.IsBuilder T e B b bs w' := by
  have key : ∀ p, Lib.BuilderAt T e B b p bs w -> Lib.BuilderAt T e B b p bs w' := by
    rintro p ⟨h1, v, h2, h3, h4⟩
    refine ⟨h1, v, (hb.block _ (Array.getElem?_eq_some_iff.1 h2).1).trans h2, h3.kept (row := none) ⟨hb.os, hb.tape, hb.output, hb.size, fun k hk _ => hb.block k hk⟩ ?_, h4⟩
    cases hv : v.ownBlock with
    | none => exact .inl rfl
    | some k => exact .inr (by simp)
  rcases h with h | h
  . exact .inl (key _ h)
  . exact .inr (key _ h)
theorem Pd {x : Int} {r : List Int} (h : r ≠ []) : J0 (x :: r) = J0 r ++ ((List.replicate 9 48).drop (Lib.itoa x).length ++ Lib.itoa x) := by
  cases r with
  | nil => exact absurd rfl h
  | cons y r => rfl
theorem zext (n : Nat) (h : n <= 9) : (ByteArray.extract ⟨#[48, 48, 48, 48, 48, 48, 48, 48, 48]⟩ n 9).data.toList = (List.replicate 9 48).drop n := by
  have key : ∀ n : Fin 10, (ByteArray.extract ⟨#[48, 48, 48, 48, 48, 48, 48, 48, 48]⟩ n.val 9).data.toList = (List.replicate 9 48).drop n.val := by decide +kernel
  exact key ⟨n, by omega⟩
theorem zsize (n : Nat) : ByteArray.size (ByteArray.extract ⟨#[48, 48, 48, 48, 48, 48, 48, 48, 48]⟩ n 9) <= 9 := by
  rw [ByteArray.size_extract]; simp [ByteArray.size]
set_option maxRecDepth 100000 in
set_option maxHeartbeats 4000000 in
theorem text_any (neg : Bool) (l : List Int) (K : Kx) (w : World) (hf : Inv K ⟨[], []⟩ w) (hl : l.length <= 1000000) (hok : ∀ x ∈ l, Ad x) (p : Option Addr) (cap : Nat) (hcap : l.length <= cap) (hmax : cap <= 9223372036854775807)
    (hel : ∀ (j : Nat), j < l.length -> ∃ b o, p = some ⟨b, o, none⟩ /\ w.cell? ⟨b, o + j, none⟩ = some (.int .u32 (l.getD j 0))) :
    Calls Tryz.prog 64 #[.agg #[.bool neg, .slice p l.length cap]] w fun e w' => e = .returned (.string ⟨(Pc neg l).toArray⟩) /\ Below w.heap.size w w' := by
  go_enter Tryz.func64, Tryz.ntmps64
  by_cases h0 : l.length = 0
  . go_wp2
    go_ret
    have hl0 : l = [] := List.length_eq_zero_iff.1 h0
    subst hl0
    exact ⟨rfl, (Below.refl _ _).alloc (Nat.le_refl _) _⟩
  . have h0' : ¬ ((l.length : Int) = 0) := by omega
    have h0b : ((l.length : Int) == 0) = false := by simpa using h0'
    have hw1 : IntKind.i64.wrap ((l.length : Int) - 1) = (l.length : Int) - 1 := by rw [IntKind.wrap_i64]; omega
    have hne : l ≠ [] := fun e => h0 (by rw [e]; rfl)
    have HF := Lib.hid hf
    have HOK := Lib.hid hok
    have HEL := Lib.hid hel
    clear hf hok hel
    obtain ⟨W1, hW1⟩ : ∃ W1, w.alloc (.cells #[.bool neg, .slice p l.length cap] 75) = W1 := ⟨_, rfl⟩
    have hs1 : W1.heap.size = w.heap.size + 1 := by rw [<- hW1]; simp
    have hb1 : Below w.heap.size w W1 := by rw [<- hW1]; exact (Below.refl _ _).alloc (Nat.le_refl _) _
    have hcl1 : ∀ j u, [Value.bool neg, .slice p l.length cap][j]? = some u -> W1.cell? ((⟨w.heap.size, 0, none⟩ : Addr).add j) = some u := by rw [<- hW1]; exact T0 _ _ _
    have c0 : W1.cell? ⟨w.heap.size, 0, none⟩ = some (.bool neg) := by simpa [Addr.add] using hcl1 0 _ rfl
    have c1 : W1.cell? ⟨w.heap.size, 1, none⟩ = some (.slice p l.length cap) := by simpa [Addr.add] using hcl1 1 _ rfl
    clear hcl1
    have HW1 := Lib.hid hb1
    have hfr : Lib.IsBuilder 151 5 (w.heap.size + 1) (w.heap.size + 1) (Lib.byteCells []) (W1.alloc (.cells #[.pointer none, .slice none 0 0] 151)) := by
      have := Lib.fresh_isBuilder 151 5 W1
      rw [hs1] at this; exact this
    have hb2 : Below (w.heap.size + 1) W1 (W1.alloc (.cells #[.pointer none, .slice none 0 0] 151)) := by
      have := (Below.refl W1.heap.size W1).alloc (Nat.le_refl _) (.cells #[.pointer none, .slice none 0 0] 151)
      rw [hs1] at this; exact this
    obtain ⟨W2, hW2⟩ : ∃ W2, W1.alloc (.cells #[.pointer none, .slice none 0 0] 151) = W2 := ⟨_, rfl⟩
    have hs2 : W2.heap.size = w.heap.size + 2 := by rw [<- hW2]; simp [hs1]
    rw [hW2] at hfr hb2
    have HFR := Lib.hid hfr
    have HB2 := Lib.hid hb2
    have d0 := (A4 (i := 0) (hb2.block w.heap.size (by omega))).trans c0
    have d1 := (A4 (i := 1) (hb2.block w.heap.size (by omega))).trans c1
    clear hfr hb2 hb1
    have HTAB : Hid (∀ wr, Below w.heap.size w wr -> Lib.TabIs Tryz.prog wr "internal/strconv.uint64pow10" .u64 Lib.pow10Tab) := Lib.hid fun wr hb => tab_of (by kernel_rfl) (HF.out.below hb).1.fz
    obtain ⟨neg0, hneg⟩ : ∃ neg0, neg = neg0 := ⟨_, rfl⟩
    rw [show Pc neg l = Pc neg0 l from by rw [hneg]]
    have HNEG := Lib.hid hneg
    clear hneg
    cases neg with
    | true =>
      go_wp2_with fail
      refine (bld_byte (w.heap.size + 1) (w.heap.size + 1) [] 45 _ HFR.out (by simp) (by rw [hs2]; omega)).mono ?_
      rintro e W3 ⟨rfl, h3, hb3⟩
      have hfr : Lib.IsBuilder 151 5 (w.heap.size + 1) (w.heap.size + 1) (Lib.byteCells [45]) W3 := .inr h3
      have hb4 := HB2.out.trans (hb3.mono (Nat.le_refl _))
      have d2 := (A4 (i := 1) (hb4.block w.heap.size (by omega))).trans c1
      have hs3 : w.heap.size + 2 <= W3.heap.size := h3.lt
      clear HFR HB2 d0 d1
      have HFR := Lib.hid hfr
      have HB2 := Lib.hid hb4
      clear hfr hb4 h3 hb3
      go_wp2_with fail
      go_loopw [4] (fun i wr => ∃ j : Nat, j <= l.length /\ i = .int .i64 ((j : Int) - 1) /\ Lib.IsBuilder 151 5 (w.heap.size + 1) (w.heap.size + 1) (Lib.byteCells ([45] ++ J0 (l.drop j))) wr /\ Below (w.heap.size + 1) W1 wr) (fun i _ => (intOf i + 1).toNat)
      case atStart => exact ⟨l.length, Nat.le_refl _, rfl, by rw [List.drop_length, J0, List.append_nil]; exact HFR.out, HB2.out⟩
      case round =>
        obtain ⟨j, hj, rfl, hbl, hbr⟩ := hrel
        have HBL := Lib.hid hbl
        have HBR := Lib.hid hbr
        have e1 := (A4 (i := 1) (hbr.block w.heap.size (by omega))).trans c1
        have hsr : w.heap.size + 2 <= wr.heap.size := by
          rcases hbl with h | h <;> exact h.lt
        have htab : Lib.TabIs Tryz.prog wr "internal/strconv.uint64pow10" .u64 Lib.pow10Tab := HTAB.out wr ((HW1.out).trans (hbr.mono (Nat.le_succ _)))
        have HT := Lib.hid htab
        clear hbl hbr htab
        by_cases hlt : 0 < j
        . obtain ⟨j, rfl⟩ : ∃ i, j = i + 1 := ⟨j - 1, by omega⟩
          have hj1 : ((j + 1 : Nat) : Int) - 1 = (j : Int) := by omega
          rw [hj1]
          obtain ⟨b, o, rfl, c2⟩ := HEL.out j (by omega)
          have hbw := Fg c2
          have e2 := (A4 (i := o + j) (HBR.out.block b (by omega))).trans ((A4 (i := o + j) (HW1.out.block b hbw)).trans c2)
          have hx : Ad (l.getD j 0) := Hs HOK.out (by omega)
          have HX := Lib.hid (Nd hx)
          have HD := Lib.hid (List.drop_eq_getElem_cons (show j < l.length by omega))
          have HG : Hid (l[j]'(by omega) = l.getD j 0) := Lib.hid (by rw [List.getD_eq_getElem?_getD, List.getElem?_eq_getElem (by omega)]; rfl)
          obtain ⟨x, hxx⟩ : ∃ x, l.getD j 0 = x := ⟨_, rfl⟩
          rw [hxx] at e2 hx HX HG
          have hz := Fg e2
          have hw2 : IntKind.i64.wrap ((j : Int) - 1) = (j : Int) - 1 := by rw [IntKind.wrap_i64]; omega
          have hwx : IntKind.i64.wrap x = x := by rw [IntKind.wrap_i64]; have := hx.1; have := hx.2; omega
          clear c2
          go_wp2_with fail
          refine (Tryz.strconv_Itoa x (by have := hx.1; omega) (by have := hx.2; omega) wr HT.out).mono ?_
          rintro e w5 ⟨rfl, k5, os5, hw5⟩
          have hb5 : Below wr.heap.size wr w5 := by rw [hw5]; exact ⟨rfl, rfl, rfl, by show wr.heap.size <= (wr.heap ++ os5).size; rw [Array.size_append]; omega, fun q hq => by show (wr.heap ++ os5)[q]? = _; rw [Array.getElem?_append_left hq]⟩
          obtain ⟨ds, hds⟩ : ∃ ds, Lib.itoa x = ds := ⟨_, rfl⟩
          rw [hds] at HX |-
          obtain ⟨S, hS⟩ : ∃ S, (⟨ds.toArray⟩ : ByteArray) = S := ⟨_, rfl⟩
          have hSs : S.size = ds.length := by rw [<- hS]; simp [ByteArray.size]
          have hSc : S.data.toList = ds := by rw [<- hS]
          have HBL5 := Lib.hid (Tv HBL.out hb5)
          have HBR5 := Lib.hid (HBR.out.trans (hb5.mono (by omega)))
          have hs5 : w.heap.size + 2 <= w5.heap.size := Nat.le_trans hsr hb5.size
          have f1 := (A4 (i := 1) (HBR5.out.block w.heap.size (by omega))).trans c1
          have HSC := Lib.hid hSc
          have HDS := Lib.hid hds
          rw [hS]
          have hX9 := HX.out
          rw [<- hSs] at hX9
          clear e2 e1 hw5 hb5 HBL HBR HT hS hSc hds
          by_cases hl2 : j + 1 < l.length
          . have hl3 : (j : Int) < (l.length : Int) - 1 := by omega
            have HE : Hid (Lib.byteCells ([45] ++ J0 (l.drop (j + 1))) ++ Lib.strCells (ByteArray.extract ⟨#[48, 48, 48, 48, 48, 48, 48, 48, 48]⟩ ds.length 9) ++ Lib.strCells S = Lib.byteCells ([45] ++ J0 (l.drop j))) := Lib.hid (by
              rw [HD.out, HG.out, Pd (by intro e; have := congrArg List.length e; simp at this; omega), Lib.strCells_eq, Lib.strCells_eq, HSC.out, zext _ (by rw [<- hSs]; exact hX9), HDS.out, <- Lib.byteCells_append, <- Lib.byteCells_append]
              simp only [List.append_assoc])
            have HL : Hid ((Lib.byteCells ([45] ++ J0 (l.drop (j + 1)))).length <= 9000001) := Lib.hid (by
              have := Lk (l := l.drop (j + 1)) fun z hz => HOK.out z (List.mem_of_mem_drop hz)
              rw [List.length_drop] at this
              simp [Lib.byteCells_length]; omega)
            have HZ : Hid (ByteArray.size (ByteArray.extract ⟨#[48, 48, 48, 48, 48, 48, 48, 48, 48]⟩ ds.length 9) <= 9) := Lib.hid (zsize _)
            go_wp2_with fail
            refine (Fx (w.heap.size + 1) (w.heap.size + 1) _ _ w5 HBL5.out (by have := HL.out; have := HZ.out; omega) (by omega)).mono ?_
            rintro e w6 ⟨rfl, h6, hb6⟩
            have hs6 : w.heap.size + 2 <= w6.heap.size := h6.lt
            have H6 := Lib.hid h6
            have HBR6 := Lib.hid (HBR5.out.trans hb6)
            clear h6 hb6
            go_wp2_with fail
            refine (Fx (w.heap.size + 1) (w.heap.size + 1) _ S w6 (.inr H6.out) (by have := HL.out; have := HZ.out; rw [List.length_append, Lib.strCells_length]; omega) (by omega)).mono ?_
            rintro e w7 ⟨rfl, h7, hb7⟩
            have H7 := Lib.hid h7
            have HBR7 := Lib.hid (HBR6.out.trans hb7)
            clear h7 hb7
            go_wp2
            go_round
            case rel =>
              exact ⟨j, by omega, by go_num, by rw [<- HE.out]; exact .inr H7.out, HBR7.out⟩
            case measure => simp [intOf]
          . have hl3 : ¬ (j : Int) < (l.length : Int) - 1 := by omega
            have HE : Hid (Lib.byteCells ([45] ++ J0 (l.drop (j + 1))) ++ Lib.strCells S = Lib.byteCells ([45] ++ J0 (l.drop j))) := Lib.hid (by
              rw [HD.out, HG.out, List.drop_of_length_le (show l.length <= j + 1 by omega), Lib.strCells_eq, HSC.out, <- Lib.byteCells_append, J0, J0, HDS.out]
              simp only [List.append_nil])
            have HL : Hid ((Lib.byteCells ([45] ++ J0 (l.drop (j + 1)))).length <= 9000001) := Lib.hid (by
              have := Lk (l := l.drop (j + 1)) fun z hz => HOK.out z (List.mem_of_mem_drop hz)
              rw [List.length_drop] at this
              simp [Lib.byteCells_length]; omega)
            go_wp2_with fail
            refine (Fx (w.heap.size + 1) (w.heap.size + 1) _ S w5 HBL5.out (by have := HL.out; omega) (by omega)).mono ?_
            rintro e w7 ⟨rfl, h7, hb7⟩
            have H7 := Lib.hid h7
            have HBR7 := Lib.hid (HBR5.out.trans hb7)
            clear h7 hb7
            go_wp2
            go_round
            case rel => exact ⟨j, by omega, by go_num, by rw [<- HE.out]; exact .inr H7.out, HBR7.out⟩
            case measure => simp [intOf]
        . obtain rfl : j = 0 := by omega
          go_wp2_with fail
          refine (Tryz.Builder_String_any (w.heap.size + 1) (w.heap.size + 1) _ wr HBL.out (by omega)).mono ?_
          rintro e w7 ⟨rfl, hb7⟩
          have HB7 := Lib.hid hb7
          clear hb7
          go_wp2
          go_ret
          refine ⟨?_, HW1.out.trans ((HBR.out.trans HB7.out).mono (Nat.le_succ _))⟩
          have e : Pc neg0 l = [45] ++ J0 (l.drop 0) := by rw [<- HNEG.out]; unfold Pc; rw [if_neg hne]; rfl
          rw [e]
          rfl
    | false =>
      go_wp2_with fail
      go_loopw [4] (fun i wr => ∃ j : Nat, j <= l.length /\ i = .int .i64 ((j : Int) - 1) /\ Lib.IsBuilder 151 5 (w.heap.size + 1) (w.heap.size + 1) (Lib.byteCells ([] ++ J0 (l.drop j))) wr /\ Below (w.heap.size + 1) W1 wr) (fun i _ => (intOf i + 1).toNat)
      case atStart => exact ⟨l.length, Nat.le_refl _, rfl, by rw [List.drop_length, J0, List.append_nil]; exact HFR.out, HB2.out⟩
      case round =>
        obtain ⟨j, hj, rfl, hbl, hbr⟩ := hrel
        have HBL := Lib.hid hbl
        have HBR := Lib.hid hbr
        have e1 := (A4 (i := 1) (hbr.block w.heap.size (by omega))).trans c1
        have hsr : w.heap.size + 2 <= wr.heap.size := by
          rcases hbl with h | h <;> exact h.lt
        have htab : Lib.TabIs Tryz.prog wr "internal/strconv.uint64pow10" .u64 Lib.pow10Tab := HTAB.out wr ((HW1.out).trans (hbr.mono (Nat.le_succ _)))
        have HT := Lib.hid htab
        clear hbl hbr htab
        by_cases hlt : 0 < j
        . obtain ⟨j, rfl⟩ : ∃ i, j = i + 1 := ⟨j - 1, by omega⟩
          have hj1 : ((j + 1 : Nat) : Int) - 1 = (j : Int) := by omega
          rw [hj1]
          obtain ⟨b, o, rfl, c2⟩ := HEL.out j (by omega)
          have hbw := Fg c2
          have e2 := (A4 (i := o + j) (HBR.out.block b (by omega))).trans ((A4 (i := o + j) (HW1.out.block b hbw)).trans c2)
          have hx : Ad (l.getD j 0) := Hs HOK.out (by omega)
          have HX := Lib.hid (Nd hx)
          have HD := Lib.hid (List.drop_eq_getElem_cons (show j < l.length by omega))
          have HG : Hid (l[j]'(by omega) = l.getD j 0) := Lib.hid (by rw [List.getD_eq_getElem?_getD, List.getElem?_eq_getElem (by omega)]; rfl)
          obtain ⟨x, hxx⟩ : ∃ x, l.getD j 0 = x := ⟨_, rfl⟩
          rw [hxx] at e2 hx HX HG
          have hz := Fg e2
          have hw2 : IntKind.i64.wrap ((j : Int) - 1) = (j : Int) - 1 := by rw [IntKind.wrap_i64]; omega
          have hwx : IntKind.i64.wrap x = x := by rw [IntKind.wrap_i64]; have := hx.1; have := hx.2; omega
          clear c2
          go_wp2_with fail
          refine (Tryz.strconv_Itoa x (by have := hx.1; omega) (by have := hx.2; omega) wr HT.out).mono ?_
          rintro e w5 ⟨rfl, k5, os5, hw5⟩
          have hb5 : Below wr.heap.size wr w5 := by rw [hw5]; exact ⟨rfl, rfl, rfl, by show wr.heap.size <= (wr.heap ++ os5).size; rw [Array.size_append]; omega, fun q hq => by show (wr.heap ++ os5)[q]? = _; rw [Array.getElem?_append_left hq]⟩
          obtain ⟨ds, hds⟩ : ∃ ds, Lib.itoa x = ds := ⟨_, rfl⟩
          rw [hds] at HX |-
          obtain ⟨S, hS⟩ : ∃ S, (⟨ds.toArray⟩ : ByteArray) = S := ⟨_, rfl⟩
          have hSs : S.size = ds.length := by rw [<- hS]; simp [ByteArray.size]
          have hSc : S.data.toList = ds := by rw [<- hS]
          have HBL5 := Lib.hid (Tv HBL.out hb5)
          have HBR5 := Lib.hid (HBR.out.trans (hb5.mono (by omega)))
          have hs5 : w.heap.size + 2 <= w5.heap.size := Nat.le_trans hsr hb5.size
          have f1 := (A4 (i := 1) (HBR5.out.block w.heap.size (by omega))).trans c1
          have HSC := Lib.hid hSc
          have HDS := Lib.hid hds
          rw [hS]
          have hX9 := HX.out
          rw [<- hSs] at hX9
          clear e2 e1 hw5 hb5 HBL HBR HT hS hSc hds
          by_cases hl2 : j + 1 < l.length
          . have hl3 : (j : Int) < (l.length : Int) - 1 := by omega
            have HE : Hid (Lib.byteCells ([] ++ J0 (l.drop (j + 1))) ++ Lib.strCells (ByteArray.extract ⟨#[48, 48, 48, 48, 48, 48, 48, 48, 48]⟩ ds.length 9) ++ Lib.strCells S = Lib.byteCells ([] ++ J0 (l.drop j))) := Lib.hid (by
              rw [HD.out, HG.out, Pd (by intro e; have := congrArg List.length e; simp at this; omega), Lib.strCells_eq, Lib.strCells_eq, HSC.out, zext _ (by rw [<- hSs]; exact hX9), HDS.out, <- Lib.byteCells_append, <- Lib.byteCells_append]
              simp only [List.append_assoc])
            have HL : Hid ((Lib.byteCells ([] ++ J0 (l.drop (j + 1)))).length <= 9000001) := Lib.hid (by
              have := Lk (l := l.drop (j + 1)) fun z hz => HOK.out z (List.mem_of_mem_drop hz)
              rw [List.length_drop] at this
              simp [Lib.byteCells_length]; omega)
            have HZ : Hid (ByteArray.size (ByteArray.extract ⟨#[48, 48, 48, 48, 48, 48, 48, 48, 48]⟩ ds.length 9) <= 9) := Lib.hid (zsize _)
            go_wp2_with fail
            refine (Fx (w.heap.size + 1) (w.heap.size + 1) _ _ w5 HBL5.out (by have := HL.out; have := HZ.out; omega) (by omega)).mono ?_
            rintro e w6 ⟨rfl, h6, hb6⟩
            have hs6 : w.heap.size + 2 <= w6.heap.size := h6.lt
            have H6 := Lib.hid h6
            have HBR6 := Lib.hid (HBR5.out.trans hb6)
            clear h6 hb6
            go_wp2_with fail
            refine (Fx (w.heap.size + 1) (w.heap.size + 1) _ S w6 (.inr H6.out) (by have := HL.out; have := HZ.out; rw [List.length_append, Lib.strCells_length]; omega) (by omega)).mono ?_
            rintro e w7 ⟨rfl, h7, hb7⟩
            have H7 := Lib.hid h7
            have HBR7 := Lib.hid (HBR6.out.trans hb7)
            clear h7 hb7
            go_wp2
            go_round
            case rel =>
              exact ⟨j, by omega, by go_num, by rw [<- HE.out]; exact .inr H7.out, HBR7.out⟩
            case measure => simp [intOf]
          . have hl3 : ¬ (j : Int) < (l.length : Int) - 1 := by omega
            have HE : Hid (Lib.byteCells ([] ++ J0 (l.drop (j + 1))) ++ Lib.strCells S = Lib.byteCells ([] ++ J0 (l.drop j))) := Lib.hid (by
              rw [HD.out, HG.out, List.drop_of_length_le (show l.length <= j + 1 by omega), Lib.strCells_eq, HSC.out, <- Lib.byteCells_append, J0, J0, HDS.out]
              simp only [List.append_nil])
            have HL : Hid ((Lib.byteCells ([] ++ J0 (l.drop (j + 1)))).length <= 9000001) := Lib.hid (by
              have := Lk (l := l.drop (j + 1)) fun z hz => HOK.out z (List.mem_of_mem_drop hz)
              rw [List.length_drop] at this
              simp [Lib.byteCells_length]; omega)
            go_wp2_with fail
            refine (Fx (w.heap.size + 1) (w.heap.size + 1) _ S w5 HBL5.out (by have := HL.out; omega) (by omega)).mono ?_
            rintro e w7 ⟨rfl, h7, hb7⟩
            have H7 := Lib.hid h7
            have HBR7 := Lib.hid (HBR5.out.trans hb7)
            clear h7 hb7
            go_wp2
            go_round
            case rel => exact ⟨j, by omega, by go_num, by rw [<- HE.out]; exact .inr H7.out, HBR7.out⟩
            case measure => simp [intOf]
        . obtain rfl : j = 0 := by omega
          go_wp2_with fail
          refine (Tryz.Builder_String_any (w.heap.size + 1) (w.heap.size + 1) _ wr HBL.out (by omega)).mono ?_
          rintro e w7 ⟨rfl, hb7⟩
          have HB7 := Lib.hid hb7
          clear hb7
          go_wp2
          go_ret
          refine ⟨?_, HW1.out.trans ((HBR.out.trans HB7.out).mono (Nat.le_succ _))⟩
          have e : Pc neg0 l = [] ++ J0 (l.drop 0) := by rw [<- HNEG.out]; unfold Pc; rw [if_neg hne]; rfl
          rw [e]
          rfl
theorem Abe (neg : Bool) (l : List Int) (hl : l.length <= 1000000) (hok : ∀ x ∈ l, Ad x) : Aw 64 [whP neg l] ⟨[], []⟩ (.ret (Fi ⟨(Pc neg l).toArray⟩)) ⟨[], []⟩ := by
  refine ⟨enters_of Tryz.func64 rfl rfl, fun K w vs hI hA => ?_⟩
  simp only [Ap, Rep] at hA
  obtain ⟨u, us, rfl, ⟨cs, rfl, u0, us0, rfl, r0, u1, us1, rfl, r1, rfl⟩, rfl⟩ := hA
  simp only [Cj] at r0
  obtain ⟨rfl, _⟩ := r0
  obtain ⟨p, cap, rfl, hcap, hmax, hel⟩ := lims_of r1
  refine (text_any neg l K w hI hl hok p cap hcap hmax hel).mono ?_
  rintro e w' ⟨rfl, hb⟩
  obtain ⟨h1, h2⟩ := hI.below hb
  exact ⟨K, h2, h1, _, rfl, by simp only [Rep, Cj]; exact ⟨trivial, rfl⟩⟩
end Go.Proofs.YtjagmmmcibdibaaGreatDoor
namespace Go.Proofs.YtjagmmmcibdibaaGreatDoor
open Go.RowKit
def digK : Nat -> Nat -> List UInt8
  | 0, _ => []
  | k + 1, x => digK k (x / 10) ++ [UInt8.ofNat (48 + x % 10)]
theorem Ub : ∀ k, digK k 0 = List.replicate k 48
  | 0 => rfl
  | k + 1 => by rw [digK, Ub k, List.replicate_succ']; rfl
theorem Y7 : ∀ (k x : Nat), x < 10 ^ (k + 1) -> digK (k + 1) x = (List.replicate (k + 1) 48).drop (Lib.decDigits x).length ++ Lib.decDigits x
  | 0, x, h => by
    have h' : x < 10 := by simpa using h
    rw [N4 h', digK, digK, show x % 10 = x by omega]; rfl
  | k + 1, x, h => by
    rw [digK]
    by_cases h1 : x < 10
    . rw [show x / 10 = 0 by omega, Ub, N4 h1, show x % 10 = x by omega]
      simp
    . rw [Y7 k (x / 10) (by rw [Nat.pow_succ] at h; omega), Aeg h1]
      simp only [List.length_append, List.length_cons, List.length_nil, List.drop_replicate, List.append_assoc]
      congr 2
      omega
theorem Aeh : ∀ (k n : Nat), 10 ^ k <= n -> Lib.decDigits n = Lib.decDigits (n / 10 ^ k) ++ digK k (n % 10 ^ k)
  | 0, n, _ => by simp [digK]
  | k + 1, n, h => by
    have hp : 0 < 10 ^ k := Nat.pow_pos (by decide)
    have e : 10 ^ (k + 1) = 10 * 10 ^ k := by rw [Nat.pow_succ, Nat.mul_comm]
    have h1 : ¬ n < 10 := by omega
    have h2 : 10 ^ k <= n / 10 := by rw [Nat.le_div_iff_mul_le (by decide)]; omega
    rw [Aeg h1, Aeh k (n / 10) h2, digK, e, <- Nat.div_div_eq_div_mul, List.append_assoc]
    congr 2
    . congr 1
      rw [Nat.mod_mul, Nat.add_mul_div_left _ _ (by decide), Nat.div_eq_of_lt (Nat.mod_lt _ (by decide)), Nat.zero_add]
    . rw [Nat.mod_mul]
      congr 3
      omega
theorem txt_dec (n : Nat) (h0 : n ≠ 0) : J0 (Ao n) = Lib.decDigits n := by
  induction n using Nat.strongRecOn with
  | ind n ih =>
    have hx : Ad ((n % 1000000000 : Nat) : Int) := ⟨by omega, by omega⟩
    rw [B9 h0]
    by_cases h : n < 1000000000
    . rw [show n / 1000000000 = 0 by omega, Au, show n % 1000000000 = n by omega]
      rw [J0, Nf]
    . have hne : Ao (n / 1000000000) ≠ [] := by rw [Ne, C6]; omega
      rw [Pd hne, ih _ (by omega) (by omega), Aeh 9 n (by omega), Nf]
      congr 1
      exact (Y7 8 _ (by omega)).symm
theorem text_dec (n : Int) : Pc (decide (n < 0)) (Ao n.natAbs) = Lib.itoa n := by
  unfold Pc
  by_cases h : n = 0
  . subst h; rw [if_pos (by rw [Int.natAbs_zero, Au]), show (0 : Int) = ((0 : Nat) : Int) from rfl, Nf, N4 (by decide)]; rfl
  . rw [if_neg (by rw [C6]; omega), txt_dec _ (by omega)]
    unfold Lib.itoa
    by_cases hn : n < 0
    . rw [decide_eq_true hn, if_pos rfl, if_pos hn]; rfl
    . rw [decide_eq_false hn, if_neg (by simp), if_neg hn, show n.natAbs = n.toNat by omega]; rfl
end Go.Proofs.YtjagmmmcibdibaaGreatDoor
namespace Go.Proofs.YtjagmmmcibdibaaGreatDoor
open Go.RowKit
def slashB : ByteArray := ⟨#[47]⟩
def fcT (p : Fr) : ByteArray := if p.2 = 1 then Y5 p.1 else Y5 p.1 ++ slashB ++ Y5 p.2
theorem Wz (n : Int) (hl : (Ao n.natAbs).length <= 1000000) : Aw 64 [whI n] ⟨[], []⟩ (.ret (Fi (Y5 n))) ⟨[], []⟩ := by
  have h := Abe (decide (n < 0)) (Ao n.natAbs) hl (Bu _)
  rw [text_dec] at h
  exact h
theorem Aef {n : Int} {k : Nat} (h : Lim k n.natAbs) : (Y5 n).size <= 9 * k + 2 := by
  have h1 : n.natAbs < 10 ^ (9 * k + 1) := by
    unfold Lim at h
    rw [show (1000000000 : Nat) = 10 ^ 9 by rfl, <- Nat.pow_mul] at h
    exact Nat.lt_of_lt_of_le h (Nat.pow_le_pow_right (by decide) (by omega))
  have h2 := Hm (9 * k) n.natAbs h1
  unfold Y5 Lib.itoa
  split
  . show (45 :: Lib.decDigits n.natAbs).length <= _
    simp; omega
  . rename_i h3
    show (Lib.decDigits n.toNat).length <= _
    rw [show n.toNat = n.natAbs by omega]; omega
theorem ntext_do {p : Fr} {k : Nat} (hp : Fit k p) (hk : k <= 1000) : Aw 30 [fcP p] ⟨[], []⟩ (.ret (Fi (fcT p))) ⟨[], []⟩ := by
  obtain ⟨n, d⟩ := p
  obtain ⟨e, rfl⟩ : ∃ e : Nat, d = e := ⟨d.toNat, by have := hp.red.1; simp only at this; omega⟩
  have hd : 0 < e := by have := hp.red.1; simp only at this; omega
  have h1 := Agd n e hd
  have hl1 : (Ao n.natAbs).length <= k := hp.num.len
  have hl2 : (Ao (e : Int).natAbs).length <= k := hp.den.len
  have h2 := Wz n (by omega)
  have h3 := Wz (e : Int) (by omega)
  have z1 := Aef hp.num
  have z2 := Aef hp.den
  simp only at z1 z2
  unfold fcT
  dsimp only [fcP]
  unfold Ou at h1 |-
  by_cases he : e = 1
  . rw [decide_eq_true he] at h1
    rw [if_pos (by rw [he]; rfl)]
    refine Af Tryz.func30 rfl rfl (Nat.le_of_ble_eq_true rfl) rfl (Nat.le_refl _) ?_
    repeat' (first | refine rl0 ?_ | refine rs0 (fun h => ?_) (fun h => ?_) | fail)
    refine wp1 h1 ?_
    repeat' (first | refine rl0 ?_ | refine rs0 (fun h => ?_) (fun h => ?_) | fail)
    refine wp1 h2 ?_
    repeat' (first | refine rl0 ?_ | refine rs0 (fun h => ?_) (fun h => ?_) | fail)
    rfl
  . rw [decide_eq_false he] at h1
    rw [if_neg (by omega)]
    refine Af Tryz.func30 rfl rfl (Nat.le_of_ble_eq_true rfl) rfl (Nat.le_refl _) ?_
    repeat' (first | refine rl0 ?_ | refine rs0 (fun h => ?_) (fun h => ?_) | fail)
    refine wp1 h1 ?_
    repeat' (first | refine rl0 ?_ | refine rs0 (fun h => ?_) (fun h => ?_) | fail)
    refine wp1n h2 ?_
    repeat' (first | refine rl0 ?_ | refine rs0 (fun h => ?_) (fun h => ?_) | fail)
    refine waf rfl rfl (fun _ _ => rfl) (by show (Y5 n).size + 1 <= _; omega) ?_
    repeat' (first | refine rl0 ?_ | refine rs0 (fun h => ?_) (fun h => ?_) | fail)
    refine wp1n h3 ?_
    repeat' (first | refine rl0 ?_ | refine rs0 (fun h => ?_) (fun h => ?_) | fail)
    refine waf rfl rfl (fun _ _ => rfl) (by show (Y5 n ++ slashB : ByteArray).size + (Y5 (e : Int)).size <= _; rw [ByteArray.size_append]; show (Y5 n).size + 1 + _ <= _; omega) ?_
    repeat' (first | refine rl0 ?_ | refine rs0 (fun h => ?_) (fun h => ?_) | fail)
    rfl
def evR (vars : List ByteArray) (vals : List Int) (x : Ex) : (Int × ByteArray × Bool) × Int :=
  if Bp x ≠ 0 then ((0, ⟨#[]⟩, false), Bp x)
  else if vars.length ≠ vals.length \/ E8 vars vals = false then ((0, ⟨#[]⟩, false), 2)
  else if A6 vars x = 0 then ((0, ⟨#[]⟩, false), 351)
  else match evX vars vals x with
    | none => ((0, ⟨#[]⟩, false), 2)
    | some r => if A6 vars x = 2 then ((2, ⟨#[]⟩, r.2), 0) else ((1, fcT r.1, false), 0)
@[reducible] def vrP (r : Int × ByteArray × Bool) : PV := vlP r.1 r.2.1 r.2.2
theorem kind_12 (vars : List ByteArray) : ∀ x : Ex, Good x -> A6 vars x = 0 \/ A6 vars x = 1 \/ A6 vars x = 2 := by
  have hz : ∀ o, isZ o = 1 \/ isZ o = 2 := fun o => by unfold isZ; split <;> omega
  intro x hx
  induction hx with
  | num n _ _ => exact .inr (.inl rfl)
  | name s _ =>
    rw [A6]; split
    . exact .inl rfl
    . rw [if_neg (by omega)]; split
      . exact .inr (hz _)
      . exact .inl rfl
  | yes => exact .inr (.inr rfl)
  | no => exact .inr (.inr rfl)
  | neg a _ ih =>
    rw [Gt, if_neg (by omega), if_neg (by omega)]; split
    . exact .inr (hz _)
    . exact .inl rfl
  | not a _ ih =>
    rw [Gt, if_neg (by omega), if_neg (by omega)]; split
    . exact .inr (hz _)
    . exact .inl rfl
  | bin o a b h1 h2 _ _ _ _ =>
    rw [Gt, if_neg (by omega), if_neg (by omega)]; split
    . exact .inr (hz _)
    . exact .inl rfl
  | ite a b c _ _ _ _ ihb _ =>
    rw [Gt, if_neg (by omega), if_pos rfl, Bm, Bm, Bm, Bm]
    dsimp only
    split
    . exact .inl rfl
    . exact ihb
theorem Ach {vars : List ByteArray} {vals : List Int} (hl : vars.length = vals.length) (h : E8 vars vals = true) : ∀ v ∈ vals, -9999 <= v /\ v <= 9999 := by
  intro v hv
  obtain ⟨i, hi, rfl⟩ := List.getElem_of_mem hv
  have h1 := List.all_eq_true.1 h i (List.mem_range.2 (by omega))
  unfold Iv at h1
  simp only [Bool.and_eq_true, decide_eq_true_eq] at h1
  have e : vals.getD i 0 = vals[i] := by rw [List.getD_eq_getElem?_getD, List.getElem?_eq_getElem hi]; rfl
  rw [e] at h1
  exact ⟨h1.1.2, h1.2⟩
theorem eval_all (x : Ex) (vars : List ByteArray) (vals : List Int) (hs : x.small) : Aw 10 [exP x, Db vars, Dv vals] ⟨[], []⟩ (.ret (.tup [vrP (evR vars vals x).1, An (evR vars vals x).2])) ⟨[], []⟩ := by
  unfold evR
  by_cases hc : Bp x = 0
  rotate_left
  . rw [if_pos hc]; exact eval_bad x vars vals hs hc
  rw [if_neg (fun h => h hc)]
  by_cases ha : vars.length ≠ vals.length \/ E8 vars vals = false
  . rw [if_pos ha]; exact Uf x vars vals hs hc ha
  rw [if_neg ha]
  simp only [not_or, Decidable.not_not, Bool.not_eq_false] at ha
  obtain ⟨hl, hr⟩ := ha
  by_cases hk : A6 vars x = 0
  . rw [if_pos hk]; exact Aeu x vars vals hs hc hl hr hk
  rw [if_neg hk]
  have hgx := Abo hc
  have hvr := Ach hl hr
  have hv : Yz vals := fun v hv => by have := hvr v hv; omega
  have hnod := Xf hc
  have he := eval_do vars vals hl hv _ x (Nat.le_refl _) hgx hk hnod
  have hki := Rb hv hgx hk
  cases e : evX vars vals x with
  | none =>
    rw [e] at he
    exact Zh x vars vals hs hc hl hr hk he
  | some r =>
    rw [e] at he
    obtain ⟨k1, k2⟩ := hki r e
    dsimp only
    rcases kind_12 vars x hgx with h | h | h
    . exact absurd h hk
    . rw [if_neg (by omega)]
      exact Zi x vars vals hs hc hl hr h _ _ _ _ _ _ he (ntext_do (k1 h).1 (by omega))
    . rw [if_pos h]
      exact P3 x vars vals hs hc hl hr h _ _ _ _ _ he
end Go.Proofs.YtjagmmmcibdibaaGreatDoor
namespace Go.Proofs.YtjagmmmcibdibaaGreatDoor
open Go.RowKit
theorem letter {j : Int} (h0 : 0 <= j) (h3 : j < 3) : Je Dc (sXyz.extract j.toNat (j + 1).toNat) = true := by
  have : j = 0 \/ j = 1 \/ j = 2 := by omega
  rcases this with rfl | rfl | rfl <;> decide +kernel
theorem U3 {vars : List ByteArray} (hv : ∀ j : Int, 0 <= j -> j < 3 -> Je vars (sXyz.extract j.toNat (j + 1).toNat) = true) (num : Bool) {n : Int} (h0 : 0 <= n) (h1 : n < 256) : A6 vars (Gu num n) = if num = true then 1 else 2 := by
  unfold Gu
  cases num with
  | false =>
    rw [if_pos rfl, if_neg (by simp)]
    have : n / 16 % 2 = 0 \/ n / 16 % 2 = 1 := by omega
    rcases this with h | h <;> rw [h] <;> rfl
  | true =>
    rw [if_neg (by simp), if_pos rfl]
    split
    . have hm := hv (n / 16 % 3) (by omega) (by omega)
      rw [A6, if_neg (by rintro ⟨_, h⟩; rw [hm] at h; cases h)]; rfl
    . rfl
theorem Zw {vars : List ByteArray} {g : Int -> Nat -> Ex × Nat} : ∀ (ts : List Int) (a : Nat), (∀ t ∈ ts, ∀ a, A6 vars (g t a).1 = t) -> Bm vars (Cg g ts a).1 = ts
  | [], a, _ => rfl
  | t :: ts, a, h => by
    rw [Cg, Bm, h t List.mem_cons_self, Zw ts _ fun u hu => h u (List.mem_cons_of_mem _ hu)]
theorem Va {vars : List ByteArray} (hv : ∀ j : Int, 0 <= j -> j < 3 -> Je vars (sXyz.extract j.toNat (j + 1).toNat) = true) (l : List UInt8) : ∀ (f : Nat) (want : Int) (a : Nat), want = 1 \/ want = 2 -> A6 vars (Jf l f want a).1 = want
  | 0, want, a, hw => by
    have hn := Ht l a
    rw [Jf]; simp only
    rw [U3 hv _ hn.1 hn.2]
    rcases hw with rfl | rfl <;> simp [Hi]
  | f + 1, want, a, hw => by
    have hn := Ht l a
    rw [Jf]
    split
    . simp only
      rw [U3 hv _ hn.1 hn.2]
      rcases hw with rfl | rfl <;> simp [Hi]
    . simp only
      have hf : ∀ ts, Kl want ts = ts := fun ts => by unfold Kl; rw [if_neg (by omega)]
      rw [hf]
      have hk := fun ts (h : ∀ t ∈ ts, t = 1 \/ t = 2) b => Zw (vars := vars) (g := Jf l f) ts b fun t ht c => Va hv l f t c (h t ht)
      generalize B1 l a = n at *
      rcases hw with rfl | rfl
      . rw [show Hi 1 n = true by simp [Hi]]
        unfold Cl
        rw [if_neg (by simp)]
        split
        . rw [A6, hk _ (by simp), if_neg (by omega), if_neg (by omega)]; rfl
        . split
          . have h4 : n / 16 % 4 = 0 \/ n / 16 % 4 = 1 \/ n / 16 % 4 = 2 \/ n / 16 % 4 = 3 := by omega
            rw [A6, hk _ (by simp), if_neg (by simp only; omega), if_neg (by simp only; omega)]
            rcases h4 with h | h | h | h <;> rw [h] <;> rfl
          . rw [A6, hk _ (by simp), if_neg (by omega), if_pos rfl]; rfl
      . rw [show Hi 2 n = false by simp [Hi]]
        unfold Cl
        rw [if_pos rfl]
        split
        . have h4 : n / 16 % 6 = 0 \/ n / 16 % 6 = 1 \/ n / 16 % 6 = 2 \/ n / 16 % 6 = 3 \/ n / 16 % 6 = 4 \/ n / 16 % 6 = 5 := by omega
          rw [A6, hk _ (by simp), if_neg (by simp only; omega), if_neg (by simp only; omega)]
          rcases h4 with h | h | h | h | h | h <;> rw [h] <;> rfl
        . split
          . rw [A6, hk _ (by simp), if_neg (by omega), if_neg (by omega)]; rfl
          . split
            . have h4 : n / 16 % 2 = 0 \/ n / 16 % 2 = 1 := by omega
              rw [A6, hk _ (by simp), if_neg (by simp only; omega), if_neg (by simp only; omega)]
              rcases h4 with h | h <;> rw [h] <;> rfl
            . rw [A6, hk _ (by simp), if_neg (by omega), if_pos rfl]; rfl
theorem Vc (l : List UInt8) {want : Int} (h : want = 1 \/ want = 2) : A6 Dc (Rv l want) = want := Va (fun _ => letter) l 9 want 0 h
theorem U4 {g : Int -> Nat -> Ex × Nat} {m : Nat} (hg : ∀ t a, (g t a).2 = a + Bg (g t a).1 /\ (g t a).2 + 3 * (m - (g t a).2) <= a + 3 * (m - a) + 1) : ∀ (ts : List Int) (a : Nat), (Cg g ts a).2 = a + (Ia (Cg g ts a).1).length /\ (Cg g ts a).2 + 3 * (m - (Cg g ts a).2) <= a + 3 * (m - a) + ts.length
  | [], a => by simp [Cg, Ia]
  | t :: ts, a => by
    simp only [Cg]
    have h1 := hg t a
    have h2 := U4 hg ts (g t a).2
    rw [Be]
    simp only [List.length_cons]
    omega
theorem Z7 {l : List UInt8} {a m : Nat} (hl : l.length <= m) (h : B1 l a ≠ 0) : a < m := by
  unfold B1 at h
  split at h
  . rename_i h7; omega
  . exact absurd rfl h
theorem Agg (l : List UInt8) (m : Nat) (hl : l.length <= m) : ∀ (f : Nat) (want : Int) (a : Nat), (Jf l f want a).2 = a + Bg (Jf l f want a).1 /\ (Jf l f want a).2 + 3 * (m - (Jf l f want a).2) <= a + 3 * (m - a) + 1
  | 0, want, a => by
    rw [Jf]
    simp only
    rw [(Fy _ _).2]
    omega
  | f + 1, want, a => by
    rw [Jf]
    split
    . simp only
      rw [(Fy _ _).2]
      omega
    . rename_i h5
      have ha : a < m := Z7 hl (fun h => by rw [h] at h5; omega)
      have h1 := U4 (Agg l m hl f) (Kl want (Cl (Hi want (B1 l a)) (B1 l a)).2) (a + 1)
      have h2 := Of (Hi want (B1 l a)) (B1 l a)
      rw [Km] at h1
      simp only
      rw [A8]
      omega
theorem Z2 (l : List UInt8) (want : Int) (hl : l.length <= 8) : Bg (Rv l want) <= 25 := by
  have := Agg l 8 hl 9 want 0
  unfold Rv; omega
theorem U5 {g : Int -> Nat -> Ex × Nat} {m : Nat} (hg : ∀ t a, (g t a).1.hgt <= m - a + 1 /\ a <= (g t a).2) : ∀ (ts : List Int) (a : Nat), ∀ x ∈ (Cg g ts a).1, x.hgt <= m - a + 1
  | [], a, x, h => by simp [Cg] at h
  | t :: ts, a, x, h => by
    simp only [Cg] at h
    have h1 := hg t a
    rcases List.mem_cons.1 h with rfl | h
    . exact h1.1
    . have := U5 hg ts _ x h; omega
theorem Agh (l : List UInt8) (m : Nat) (hl : l.length <= m) : ∀ (f : Nat) (want : Int) (a : Nat), (Jf l f want a).1.hgt <= m - a + 1
  | 0, want, a => by rw [Jf]; rw [(Fy _ _).1]; omega
  | f + 1, want, a => by
    rw [Jf]
    split
    . show (Gu _ _).hgt <= _
      rw [(Fy _ _).1]; omega
    . rename_i h5
      have ha : a < m := Z7 hl (fun h => by rw [h] at h5; omega)
      rw [Ex.hgt]
      have := hgts_le (U5 (g := Jf l f) (m := m) (fun t b => ⟨Agh l m hl f t b, by have := (Vp l f t b).1; omega⟩) (Kl want (Cl (Hi want (B1 l a)) (B1 l a)).2) (a + 1))
      omega
theorem Z3 (l : List UInt8) (want : Int) (hl : l.length <= 8) : (Rv l want).hgt <= 9 := by
  have := Agh l 8 hl 9 want 0
  unfold Rv; omega
end Go.Proofs.YtjagmmmcibdibaaGreatDoor
namespace Go.Proofs.YtjagmmmcibdibaaGreatDoor
open Go.RowKit
def rdL : List (List DV) -> Option (List Int)
  | [] => some []
  | [.v (.int .u32 x)] :: r => match rdL r with
    | some l => some (x :: l)
    | none => none
  | _ :: _ => none
def rdP : PV -> Option (List Int)
  | .d (.sl 1 l) => rdL l
  | .d (.v (.slice none 0 0)) => some []
  | _ => none
theorem rdL_ok : ∀ {r : List (List DV)} {l : List Int}, rdL r = some l -> r = l.map B8
  | [], l, h => by cases h; rfl
  | e :: r, l, h => by
    unfold rdL at h
    split at h
    . rename_i he; cases he
    . rename_i x r' he
      cases he
      split at h
      . rename_i l' hl
        cases h
        rw [rdL_ok hl]; rfl
      . cases h
    . cases h
theorem V9 {p : PV} {l : List Int} (h : rdP p = some l) (S : PS) : Coe S p (B3 l) := by
  unfold rdP at h
  split at h
  . rw [rdL_ok h]; exact Ac _
  . cases h; exact Er
  . cases h
theorem Ih {f : Nat} {args args' : List PV} {S S' : PS} {out : POut} (h : Aw f args' S out S') (hc : F7 S args args') : Aw f args S out S' :=
  ⟨h.1, fun K w vs hI hA => h.2 K w vs hI (F7.rep hI hc hA)⟩
def okB (l : List Int) : Bool := Nat.ble l.length 1000000 && l.all fun x => decide (0 <= x) && decide (x < 1000000000)
theorem Qj {l : List Int} (h : okB l = true) : l.length <= 1000000 /\ ∀ x ∈ l, Ad x := by
  simp only [okB, Bool.and_eq_true] at h
  refine ⟨Nat.le_of_ble_eq_true h.1, fun x hx => ?_⟩
  have := List.all_eq_true.1 h.2 x hx
  simp only [Bool.and_eq_true, decide_eq_true_eq] at this
  exact this
def orcE : Nat -> List PV -> PS -> Option (POut × PS) := fun f args S => match S with
  | ⟨[], []⟩ => match args with
    | [.agg [.d (.v (.bool na)), m], .agg [.d (.v (.bool nb)), o]] => bif Nat.beq f 79 then
        match rdP m, rdP o with
        | some m, some o => bif okB m && okB o then some (.ret (whP (!decide (na = nb) && !decide (Bs (mulL m o) = [])) (Bs (mulL m o))), ⟨[], []⟩) else none
        | _, _ => none
      else none
    | [.agg [.d (.v (.bool na)), m]] => bif Nat.beq f 64 then
        match rdP m with
        | some m => bif okB m then some (.ret (Fi ⟨(Pc na m).toArray⟩), ⟨[], []⟩) else none
        | none => none
      else none
    | [m, .d (.v (.int .u32 b))] => bif Nat.beq f 176 then
        match rdP m with
        | some m => bif okB m && okB [b] && decide (0 < b) then some (.ret (.tup [B3 (qL b m).1, .d (.v (.int .u32 (qL b m).2))]), ⟨[], []⟩) else none
        | none => none
      else none
    | [m] => bif Nat.beq f 146 then
        match rdP m with
        | some m => bif okB m && Nat.ble m.length 2 then some (.ret (.d (.v (.int .u64 (Am m)))), ⟨[], []⟩) else none
        | none => none
      else none
    | _ => none
  | _ => none
theorem Agv : Pk orcE := by
  intro f args S out S' h
  unfold orcE at h
  split at h
  . split at h
    . rename_i na m nb o
      cases hb : Nat.beq f 79 <;> simp only [hb, cond_true, cond_false] at h
      . cases h
      . obtain rfl := Nat.eq_of_beq_eq_true hb
        split at h
        . rename_i m' o' h1 h2
          cases hk : (okB m' && okB o') <;> simp only [hk, cond_true, cond_false] at h
          . cases h
          . cases h
            simp only [Bool.and_eq_true] at hk
            obtain ⟨k1, k2⟩ := Qj hk.1
            obtain ⟨k3, k4⟩ := Qj hk.2
            exact Ih (mul_do na nb m' o' k2 k4 k1 k3) (Ab (Eb (Ab (Ac _) (Ab (V9 h1 _) Ae))) (Ab (Eb (Ab (Ac _) (Ab (V9 h2 _) Ae))) Ae))
        . cases h
    . rename_i na m
      cases hb : Nat.beq f 64 <;> simp only [hb, cond_true, cond_false] at h
      . cases h
      . obtain rfl := Nat.eq_of_beq_eq_true hb
        split at h
        . rename_i m' h1
          cases hk : okB m' <;> simp only [hk, cond_true, cond_false] at h
          . cases h
          . cases h
            obtain ⟨k1, k2⟩ := Qj hk
            exact Ih (Abe na m' k1 k2) (Ab (Eb (Ab (Ac _) (Ab (V9 h1 _) Ae))) Ae)
        . cases h
    . rename_i m b
      cases hb : Nat.beq f 176 <;> simp only [hb, cond_true, cond_false] at h
      . cases h
      . obtain rfl := Nat.eq_of_beq_eq_true hb
        split at h
        . rename_i m' h1
          cases hk : (okB m' && okB [b] && decide (0 < b)) <;> simp only [hk, cond_true, cond_false] at h
          . cases h
          . cases h
            simp only [Bool.and_eq_true, decide_eq_true_eq] at hk
            obtain ⟨k1, k2⟩ := Qj hk.1.1
            obtain ⟨_, k4⟩ := Qj hk.1.2
            exact Ih (Sp m' b k1 k2 (k4 b (by simp)) hk.2) (Ab (V9 h1 _) (Ab (Ac _) Ae))
        . cases h
    . rename_i m _
      cases hb : Nat.beq f 146 <;> simp only [hb, cond_true, cond_false] at h
      . cases h
      . obtain rfl := Nat.eq_of_beq_eq_true hb
        split at h
        . rename_i m' h1
          cases hk : (okB m' && Nat.ble m'.length 2) <;> simp only [hk, cond_true, cond_false] at h
          . cases h
          . cases h
            simp only [Bool.and_eq_true] at hk
            obtain ⟨k1, k2⟩ := Qj hk.1
            exact Ih (Td m' (Nat.le_of_ble_eq_true hk.2) k2) (Ab (V9 h1 _) Ae)
        . cases h
    . cases h
  . cases h
noncomputable def runV (vars : List ByteArray) (vals : List Int) (x : Ex) : Option (POut × PS) := Aet Tryz.prog orcE (fun _ => false) 1000 29 [.agg [Db vars, Dv vals], exP x] ⟨[], []⟩
end Go.Proofs.YtjagmmmcibdibaaGreatDoor
namespace Go.Proofs.YtjagmmmcibdibaaGreatDoor
open Go.RowKit
theorem Yg {vars : List ByteArray} {vals : List Int} {x : Ex} {out : POut} (h : runV vars vals x = some (out, ⟨[], []⟩)) : Aw 29 [Ada vars vals, exP x] ⟨[], []⟩ out ⟨[], []⟩ := I7 Agv h
theorem rv1 : runV [⟨#[120]⟩] [3] (nd 10 [eX, e2]) = some (.ret (.agg (resC false [3] false [2] false)), ⟨[], []⟩) := by kernel_rfl
theorem rv2 : runV [⟨#[120]⟩] [0] (nd 10 [e1, eX]) = some (.panic divV, ⟨[], []⟩) := by kernel_rfl
theorem rv3 : runV [⟨#[120]⟩] [0] (nd 18 [nd 11 [eX, e0], nd 15 [nd 10 [e1, eX], e0]]) = some (.ret (.agg [At false, .d (.v (.slice none 0 0)), At false, .d (.v (.slice none 0 0)), At true]), ⟨[], []⟩) := by kernel_rfl
theorem tx1 : Aet Tryz.prog orcE (fun _ => false) 1000 30 [.agg [At false, B3 [3], At false, B3 [2]]] ⟨[], []⟩ = some (.ret (Fi ⟨#[51, 47, 50]⟩), ⟨[], []⟩) := by kernel_rfl
theorem ev1 : Aw 10 [exP (nd 10 [eX, e2]), Db [⟨#[120]⟩], Dv [3]] ⟨[], []⟩ (.ret (.tup [vlP 1 ⟨#[51, 47, 50]⟩ false, An 0])) ⟨[], []⟩ :=
  Zi _ _ _ (C4 (by decide +kernel)) (by decide +kernel) (by decide +kernel) (by decide +kernel) (by decide +kernel) _ _ _ _ _ _ (Yg rv1) (I7 Agv tx1)
theorem ev2 : Aw 10 [exP (nd 10 [e1, eX]), Db [⟨#[120]⟩], Dv [0]] ⟨[], []⟩ (.ret (.tup [vlP 0 ⟨#[]⟩ false, An 2])) ⟨[], []⟩ :=
  Zh _ _ _ (C4 (by decide +kernel)) (by decide +kernel) (by decide +kernel) (by decide +kernel) (by decide +kernel) (Yg rv2)
theorem ev3 : Aw 10 [exP (nd 18 [nd 11 [eX, e0], nd 15 [nd 10 [e1, eX], e0]]), Db [⟨#[120]⟩], Dv [0]] ⟨[], []⟩ (.ret (.tup [vlP 2 ⟨#[]⟩ true, An 0])) ⟨[], []⟩ :=
  P3 _ _ _ (C4 (by decide +kernel)) (by decide +kernel) (by decide +kernel) (by decide +kernel) (by decide +kernel) false [] false [] true
    (Dy (Yg rv3) (Eb (Ab (Ac _) (Ab Er (Ab (Ac _) (Ab Er (Ab (Ac _) Ae)))))))
theorem ev4 : Aw 10 [exP e1, Db [⟨#[120]⟩, ⟨#[120]⟩], Dv [1, 1]] ⟨[], []⟩ (.ret (.tup [vlP 0 ⟨#[]⟩ false, An 2])) ⟨[], []⟩ :=
  Uf _ _ _ (C4 (by decide +kernel)) (by decide +kernel) (.inr (by decide +kernel))
end Go.Proofs.YtjagmmmcibdibaaGreatDoor
namespace Go.Proofs.YtjagmmmcibdibaaGreatDoor
open Go.RowKit
theorem Yy {x : Ex} {s : ByteArray} (hs : Qs x = true) (h : Ac6 x = (s, 0)) : Aw 72 [exP x] ⟨[], []⟩ (.ret (.tup [Fi s, An 0])) ⟨[], []⟩ := by
  have := ptext_do x (C4 hs)
  rwa [h] at this
theorem ty_of {x : Ex} {vars : List ByteArray} {a b : Int} (hs : Qs x = true) (h : Tc vars x = (a, b)) : Aw 18 [exP x, Db vars] ⟨[], []⟩ (.ret (.tup [An a, An b])) ⟨[], []⟩ := by
  have := type_do vars x (C4 hs)
  rwa [h] at this
theorem nm_of {x : Ex} {l : List ByteArray} {b : Int} (hs : Qs x = true) (h : Ok x = (l, b)) : Aw 17 [exP x] ⟨[], []⟩ (.ret (.tup [Db l, An b])) ⟨[], []⟩ := by
  have := names_do x (C4 hs)
  rwa [h] at this
def wx1 : Ex := nd 9 [nd 7 [e1, e2], eX]
def wx2 : Ex := nd 8 [e1, nd 8 [e2, e3]]
def wx3 : Ex := nd 6 [nd 6 [eT]]
def wx4 : Ex := nd 7 [nd 19 [eT, e1, e2], e3]
def wx5 : Ex := nd 7 [e1, nd 19 [eT, e2, e3]]
def wx6 : Ex := nd 17 [nd 13 [e1, e2], eT]
def wx7 : Ex := nd 5 [nd 7 [e1, e2]]
def ws1 : ByteArray := ⟨#[40, 32, 49, 32, 43, 32, 50, 32, 41, 32, 42, 32, 120]⟩
def ws2 : ByteArray := ⟨#[49, 32, 45, 32, 40, 32, 50, 32, 45, 32, 51, 32, 41]⟩
def ws3 : ByteArray := ⟨#[110, 111, 116, 32, 110, 111, 116, 32, 116, 114, 117, 101]⟩
def ws4 : ByteArray := ⟨#[40, 32, 105, 102, 32, 116, 114, 117, 101, 32, 116, 104, 101, 110, 32, 49, 32, 101, 108, 115, 101, 32, 50, 32, 41, 32, 43, 32, 51]⟩
def ws5 : ByteArray := ⟨#[49, 32, 43, 32, 40, 32, 105, 102, 32, 116, 114, 117, 101, 32, 116, 104, 101, 110, 32, 50, 32, 101, 108, 115, 101, 32, 51, 32, 41]⟩
def ws6 : ByteArray := ⟨#[49, 32, 60, 32, 50, 32, 97, 110, 100, 32, 116, 114, 117, 101]⟩
def ws7 : ByteArray := ⟨#[45, 32, 40, 32, 49, 32, 43, 32, 50, 32, 41]⟩
def factsW : List Id := [
  (36, [Fi txt1, exP (nd 8 [nd 7 [e1, nd 9 [e2, eX]], e3]), An 7], .ret (At true)), (36, [Fi txt2, exP (nd 13 [e1, eX]), An 3], .ret (At true)), (36, [Fi txt4, exP (nd 7 [e1, nd 5 [e2]]), An 4], .ret (At true)),
  (36, [Fi txt5, exP (nd 6 [e1]), An 2], .ret (At true)), (37, [Fi txt3, An 3, An 350], .ret (At true)), (37, [Fi txt6, An 0, An 350], .ret (At true)),
  (72, [exP wx1], .ret (.tup [Fi ws1, An 0])), (72, [exP wx2], .ret (.tup [Fi ws2, An 0])), (72, [exP wx3], .ret (.tup [Fi ws3, An 0])), (72, [exP wx4], .ret (.tup [Fi ws4, An 0])),
  (72, [exP wx5], .ret (.tup [Fi ws5, An 0])), (72, [exP wx6], .ret (.tup [Fi ws6, An 0])), (72, [exP wx7], .ret (.tup [Fi ws7, An 0])),
  (18, [exP (nd 7 [eX, e1]), Db [⟨#[120]⟩]], .ret (.tup [An 1, An 0])), (18, [exP eX, Db []], .ret (.tup [An 0, An 351])), (18, [exP (nd 6 [e1]), Db []], .ret (.tup [An 0, An 351])), (18, [exP (nd 19 [eT, e1, eF]), Db []], .ret (.tup [An 0, An 351])),
  (10, [exP (nd 10 [eX, e2]), Db [⟨#[120]⟩], Dv [3]], .ret (.tup [vlP 1 ⟨#[51, 47, 50]⟩ false, An 0])), (10, [exP (nd 10 [e1, eX]), Db [⟨#[120]⟩], Dv [0]], .ret (.tup [vlP 0 ⟨#[]⟩ false, An 2])),
  (10, [exP (nd 18 [nd 11 [eX, e0], nd 15 [nd 10 [e1, eX], e0]]), Db [⟨#[120]⟩], Dv [0]], .ret (.tup [vlP 2 ⟨#[]⟩ true, An 0])), (10, [exP e1, Db [⟨#[120]⟩, ⟨#[120]⟩], Dv [1, 1]], .ret (.tup [vlP 0 ⟨#[]⟩ false, An 2])),
  (17, [exP (nd 7 [eY, nd 9 [eX, eY]])], .ret (.tup [Db [⟨#[121]⟩, ⟨#[120]⟩], An 0]))]
theorem Aew : ∀ e ∈ factsW, Id.holds e :=
  A5 reads1 (A5 reads2 (A5 reads4 (A5 reads5 (A5 fails3 (A5 fails6
  (A5 (Yy (by decide +kernel) (by decide +kernel)) (A5 (Yy (by decide +kernel) (by decide +kernel)) (A5 (Yy (by decide +kernel) (by decide +kernel)) (A5 (Yy (by decide +kernel) (by decide +kernel))
  (A5 (Yy (by decide +kernel) (by decide +kernel)) (A5 (Yy (by decide +kernel) (by decide +kernel)) (A5 (Yy (by decide +kernel) (by decide +kernel))
  (A5 (ty_of (by decide +kernel) (by decide +kernel)) (A5 (ty_of (by decide +kernel) (by decide +kernel)) (A5 (ty_of (by decide +kernel) (by decide +kernel)) (A5 (ty_of (by decide +kernel) (by decide +kernel))
  (A5 ev1 (A5 ev2 (A5 ev3 (A5 ev4 (A5 (nm_of (by decide +kernel) (by decide +kernel)) Aex)))))))))))))))))))))
theorem Ah7 : Aet Tryz.prog (orcT factsW) (fun _ => false) 1000 12 [] ⟨[], []⟩ = some (.ret (At true), ⟨[], []⟩) := by kernel_rfl
theorem works_do : Aw 12 [] ⟨[], []⟩ (.ret (At true)) ⟨[], []⟩ := I7 (orcT_ok Aew) Ah7
end Go.Proofs.YtjagmmmcibdibaaGreatDoor
namespace Go.Proofs.YtjagmmmcibdibaaGreatDoor
open Go.RowKit
def tvX (vals : List Int) (x : Ex) : Option Bool := (evX Dc vals x).map fun r => r.2
@[reducible] def tvR : Option Bool -> Int × ByteArray × Bool
  | none => (0, ⟨#[]⟩, false)
  | some b => (2, ⟨#[]⟩, b)
@[reducible] def tvP (o : Option Bool) : PV := vrP (tvR o)
@[reducible] def tvE : Option Bool -> Int
  | none => 2
  | some _ => 0
section
variable (vals : List Int)
theorem Ah1 (a : Ex) : tvX vals (nd 6 [a]) = (tvX vals a).map (!·) := by
  unfold tvX; rw [Aes]; cases evX Dc vals a <;> rfl
theorem Ah0 (a b : Ex) : tvX vals (nd 17 [a, b]) = (tvX vals a).bind fun x => if x = true then tvX vals b else some false := by
  unfold tvX; rw [Ze _ _ 17 (.inl rfl)]
  cases evX Dc vals a with
  | none => rfl
  | some r =>
    obtain ⟨f, y⟩ := r
    cases y <;> simp
theorem tv_or (a b : Ex) : tvX vals (nd 18 [a, b]) = (tvX vals a).bind fun x => if x = true then some true else tvX vals b := by
  unfold tvX; rw [Ze _ _ 18 (.inr rfl)]
  cases evX Dc vals a with
  | none => rfl
  | some r =>
    obtain ⟨f, y⟩ := r
    cases y <;> simp
theorem tv_ite (a b c : Ex) : tvX vals (nd 19 [a, b, c]) = (tvX vals a).bind fun x => if x = true then tvX vals b else tvX vals c := by
  unfold tvX; rw [Aeq]
  cases evX Dc vals a with
  | none => rfl
  | some r =>
    obtain ⟨f, y⟩ := r
    cases y <;> simp
def Dr : Ex := nd 11 [nd 10 [.mk 1 1 ⟨#[]⟩ [], .mk 1 0 ⟨#[]⟩ []], .mk 1 1 ⟨#[]⟩ []]
theorem Aa3 : tvX vals Dr = none := by
  unfold tvX Dr
  rw [Zg _ _ 11 (by decide) (by decide), Zg _ _ 10 (by decide) (by decide), Zf, Zf]; rfl
theorem tv_false : tvX vals (nd 4 []) = some false := rfl
end
theorem Acl {x y z : Int} (hx : -9999 <= x /\ x <= 9999) (hy : -9999 <= y /\ y <= 9999) (hz : -9999 <= z /\ z <= 9999) : E8 Dc [x, y, z] = true := by
  unfold E8
  rw [show Dc.length = 3 from rfl, show List.range 3 = [0, 1, 2] from rfl]
  simp only [List.all_cons, List.all_nil, Bool.and_true, Bool.and_eq_true]
  unfold Iv
  refine ⟨?_, ?_, ?_⟩
  . rw [show Je (Dc.take 0) (Dc.getD 0 ⟨#[]⟩) = false by decide +kernel]; simp; omega
  . rw [show Je (Dc.take 1) (Dc.getD 1 ⟨#[]⟩) = false by decide +kernel]; simp; omega
  . rw [show Je (Dc.take 2) (Dc.getD 2 ⟨#[]⟩) = false by decide +kernel]; simp; omega
theorem Afo (x : Ex) (vals : List Int) (hs : x.small) : Aw 14 [exP x, Dv vals] ⟨[], []⟩ (.ret (.tup [vrP (evR Dc vals x).1, An (evR Dc vals x).2])) ⟨[], []⟩ := by
  have h := eval_all x Dc vals hs
  have hv := vars_do
  generalize evR Dc vals x = R at *
  obtain ⟨⟨t, s, y⟩, e⟩ := R
  refine Af Tryz.func14 rfl rfl (Nat.le_of_ble_eq_true rfl) rfl (Nat.le_refl _) ?_
  repeat' (first | refine rl2 ?_ | refine rs2 (fun h => ?_) (fun h => ?_) | fail)
  refine b0 (fun k => Nat.beq k 6) [(0, [0])] ?_
  repeat' (first | refine rl7 ?_ | refine rs7 (fun h => ?_) (fun h => ?_) | fail)
  refine Ah hv ?_
  repeat' (first | refine rl7 ?_ | refine rs7 (fun h => ?_) (fun h => ?_) | fail)
  refine Ah h ?_
  repeat' (first | refine rl7 ?_ | refine rs7 (fun h => ?_) (fun h => ?_) | fail)
  repeat' (first | refine rl2 ?_ | refine rs2 (fun h => ?_) (fun h => ?_) | fail)
  rfl
theorem Gb {x : Ex} {vals : List Int} (hx : Good x) (hn : Bg x <= 60) (hh : x.hgt <= 12) (hk : A6 Dc x = 2) (hl : vals.length = 3) (hr : E8 Dc vals = true) : Aw 14 [exP x, Dv vals] ⟨[], []⟩ (.ret (.tup [tvP (tvX vals x), An (tvE (tvX vals x))])) ⟨[], []⟩ := by
  have h := Afo x vals (Abu hx)
  have e : evR Dc vals x = (tvR (tvX vals x), tvE (tvX vals x)) := by
    unfold evR
    rw [if_neg (by rw [Abt hx hn hh]; simp), if_neg (by rw [hr, show Dc.length = 3 from rfl, hl]; simp), if_neg (by omega)]
    unfold tvX
    cases evX Dc vals x with
    | none => rfl
    | some r => dsimp only; rw [if_pos hk]; rfl
  rw [e] at h
  exact h
@[reducible] def Aci (x : Ex) : List DV := [.v (.int .i64 x.op), .v (.int .i64 x.n), .v (.string x.name), .sl 4 (Ic x.args)]
theorem Yf (l : List Ex) : Ic l = l.map Aci := by rw [Hn]; exact List.map_congr_left fun x _ => Aev x
theorem E2 (op : Int) : Aw 15 [An op, .d (.v (.slice none 0 0))] ⟨[], []⟩ (.ret (exP (nd op []))) ⟨[], []⟩ := Ih (Ry op []) (Ab (Ac _) (Ab Er Ae))
theorem A7 (op : Int) (p : Ex) : Aw 15 [An op, .d (.sl 4 [Aci p])] ⟨[], []⟩ (.ret (exP (nd op [p]))) ⟨[], []⟩ := by
  have h := Ry op [p]
  rwa [show Ic [p] = [Aci p] from Yf _] at h
theorem Aj (op : Int) (p q : Ex) : Aw 15 [An op, .d (.sl 4 [Aci p, Aci q])] ⟨[], []⟩ (.ret (exP (nd op [p, q]))) ⟨[], []⟩ := by
  have h := Ry op [p, q]
  rwa [show Ic [p, q] = [Aci p, Aci q] from Yf _] at h
theorem E3 (op : Int) (p q r : Ex) : Aw 15 [An op, .d (.sl 4 [Aci p, Aci q, Aci r])] ⟨[], []⟩ (.ret (exP (nd op [p, q, r]))) ⟨[], []⟩ := by
  have h := Ry op [p, q, r]
  rwa [show Ic [p, q, r] = [Aci p, Aci q, Aci r] from Yf _] at h
section
variable {N : Nat} {ops : Array Oper} {rest : List Oper} {o : Oper} {F : Nat -> PV} {S : PS} {q : WRes -> Prop} {ty yt : TypeId} {x y : Operand} {l l' : List PV}
theorem Q2 (kk : WK Tryz.prog N ops rest (Cd N o.dst (.d (.v (.bool false))) F) S q) (hg : Al ops F o = some true := by exact rfl) (ho : o.op = .binOp .neq ty x y yt := by exact rfl) (hx : evP F x = .agg l := by exact rfl) (hy : evP F y = .agg l' := by exact rfl) (h : eqAg Tryz.prog ty l l' = some true := by kernel_rfl) : WK Tryz.prog N ops (o :: rest) F S q := Eo hg (Aae ho hx hy h) kk
theorem weqT (kk : WK Tryz.prog N ops rest (Cd N o.dst (.d (.v (.bool true))) F) S q) (hg : Al ops F o = some true := by exact rfl) (ho : o.op = .binOp .eql ty x y yt := by exact rfl) (hx : evP F x = .agg l := by exact rfl) (hy : evP F y = .agg l' := by exact rfl) (h : eqAg Tryz.prog ty l l' = some true := by kernel_rfl) : WK Tryz.prog N ops (o :: rest) F S q := Eo hg (Aad ho hx hy h) kk
end
theorem P2 (l : List UInt8) : (((l.map fun b => [DV.v (.int .u8 b.toNat)]).take ((if (8 : Int) < ((l.map fun b => [DV.v (.int .u8 b.toNat)]).length : Int) then (8 : Int) else ((l.map fun b => [DV.v (.int .u8 b.toNat)]).length : Int)).toNat)).drop (0 : Int).toNat) = (l.take 8).map fun b => [DV.v (.int .u8 b.toNat)] := by
  simp only [Int.toNat_zero, List.drop_zero, List.length_map, <- List.map_take]
  congr 1
  split
  . rfl
  . rw [Int.toNat_natCast, List.take_length, List.take_of_length_le (by omega)]
theorem Zq (o : Int) (l : List Ex) : (nd o l).hgt = Us l + 1 := by rw [nd, Ex.hgt]
set_option maxHeartbeats 8000000 in
theorem Ac9 (l m : List UInt8) (a b c : Int) (ha : -32768 <= a /\ a <= 32767) (hb : -32768 <= b /\ b <= 32767) (hc : -32768 <= c /\ c <= 32767) (hw : Aw 12 [] ⟨[], []⟩ (.ret (At true)) ⟨[], []⟩) :
    Aw 4 [H5 l, H5 m, .agg [Adf a, Adf b, Adf c]] ⟨[], []⟩ (.ret (At true)) ⟨[], []⟩ := by
  have hvals := rvals_do a b c ha hb hc
  have hr : E8 Dc (Ack a b c) = true := Acl (F6 a) (F6 b) (F6 c)
  have hlen : (Ack a b c).length = 3 := rfl
  generalize Ack a b c = vals at *
  have hl8 : (l.take 8).length <= 8 := List.length_take_le _ _
  have hm8 : (m.take 8).length <= 8 := List.length_take_le _ _
  have hm1 := Afp (l.take 8) 2
  have hm2 := Afp (m.take 8) 2
  have gp := Vb (l.take 8) 2
  have gq := Vb (m.take 8) 2
  have kp := Vc (l.take 8) (want := 2) (.inr rfl)
  have kq := Vc (m.take 8) (want := 2) (.inr rfl)
  have np := Z2 (l.take 8) 2 hl8
  have nq := Z2 (m.take 8) 2 hm8
  have tp := Z3 (l.take 8) 2 hl8
  have tq := Z3 (m.take 8) 2 hm8
  generalize Rv (l.take 8) 2 = p at *
  generalize Rv (m.take 8) 2 = q at *
  have gn : Good Dr := .bin 11 _ _ (by decide) (by decide) (.bin 10 _ _ (by decide) (by decide) (.num 1 (by decide) (by decide)) (.num 0 (by decide) (by decide))) (.num 1 (by decide) (by decide))
  have kn : A6 Dc Dr = 2 := by decide +kernel
  have nn : Bg Dr = 5 := by decide +kernel
  have tn : Dr.hgt = 3 := by decide +kernel
  have k1 : ∀ {x}, A6 Dc x = 2 -> A6 Dc (nd 6 [x]) = 2 := fun h => by rw [Gt, Bm, Bm, h]; rfl
  have k2 : ∀ {o x y}, o = 17 \/ o = 18 -> A6 Dc x = 2 -> A6 Dc y = 2 -> A6 Dc (nd o [x, y]) = 2 := fun ho h h' => by rw [Gt, Bm, Bm, Bm, h, h']; rcases ho with rfl | rfl <;> rfl
  have k3 : ∀ {x y z}, A6 Dc x = 2 -> A6 Dc y = 2 -> A6 Dc z = 2 -> A6 Dc (nd 19 [x, y, z]) = 2 := fun h h' h'' => by rw [Gt, Bm, Bm, Bm, Bm, h, h', h'']; rfl
  have n1 : ∀ o x, Bg (nd o [x]) = Bg x + 1 := fun o x => by rw [nd, A8, Be, B2]; omega
  have n2 : ∀ o x y, Bg (nd o [x, y]) = Bg x + Bg y + 1 := fun o x y => by rw [nd, A8, Be, Be, B2]; omega
  have n3 : ∀ o x y z, Bg (nd o [x, y, z]) = Bg x + Bg y + Bg z + 1 := fun o x y z => by rw [nd, A8, Be, Be, Be, B2]; omega
  have n4 : Bg (nd 4 []) = 1 := by rw [nd, A8, B2]
  have t1 : ∀ o x, (nd o [x]).hgt = x.hgt + 1 := fun o x => by rw [Zq, Gk, Gj]; omega
  have t2 : ∀ o x y, (nd o [x, y]).hgt = max x.hgt y.hgt + 1 := fun o x y => by rw [Zq, Gk, Gk, Gj]; omega
  have t3 : ∀ o x y z, (nd o [x, y, z]).hgt = max x.hgt (max y.hgt z.hgt) + 1 := fun o x y z => by rw [Zq, Gk, Gk, Gk, Gj]; omega
  have t4 : (nd 4 []).hgt = 1 := by rw [Zq, Gj]
  have v1 := Gb gp (by omega) (by omega) kp hlen hr
  have v2 := Gb (.not _ (.bin 17 _ _ (by decide) (by decide) gp gq)) (by rw [n1, n2]; omega) (by rw [t1, t2]; omega) (k1 (k2 (.inl rfl) kp kq)) hlen hr
  have v3 := Gb (.bin 18 _ _ (by decide) (by decide) (.not _ gp) (.not _ gq)) (by rw [n2, n1, n1]; omega) (by rw [t2, t1, t1]; omega) (k2 (.inr rfl) (k1 kp) (k1 kq)) hlen hr
  have v4 := Gb (.ite _ _ _ gp gq .no) (by rw [n3, n4]; omega) (by rw [t3, t4]; omega) (k3 kp kq (by decide +kernel)) hlen hr
  have v5 := Gb (.bin 17 _ _ (by decide) (by decide) gp gq) (by rw [n2]; omega) (by rw [t2]; omega) (k2 (.inl rfl) kp kq) hlen hr
  have v6 := Gb (.bin 18 _ _ (by decide) (by decide) gp gn) (by rw [n2]; omega) (by rw [t2]; omega) (k2 (.inr rfl) kp kn) hlen hr
  have v7 := Gb (.bin 17 _ _ (by decide) (by decide) gp gn) (by rw [n2]; omega) (by rw [t2]; omega) (k2 (.inl rfl) kp kn) hlen hr
  rw [Ah1, Ah0] at v2
  rw [tv_or, Ah1, Ah1] at v3
  rw [tv_ite, tv_false] at v4
  rw [Ah0] at v5
  rw [tv_or, Aa3] at v6
  rw [Ah0, Aa3] at v7
  clear gp gq kp kq np nq tp tq gn kn nn tn k1 k2 k3 n1 n2 n3 n4 t1 t2 t3 t4 hl8 hm8
  generalize tvX vals p = P at *
  generalize tvX vals q = Q at *
  have z1 := Vn 1
  have z0 := Vn 0
  cases P with
  | none =>
    simp only [Option.map_none, Option.bind_none, Option.map_some, Option.bind_some, Bool.not_true, Bool.not_false, if_true, if_false, Bool.false_eq_true] at v1 v2 v3 v4 v5 v6 v7
    dsimp only [tvP, tvR, tvE, vrP] at v1 v2 v3 v4 v5 v6 v7
    refine Af Tryz.func4 rfl rfl (Nat.le_of_ble_eq_true rfl) rfl (Nat.le_refl _) ?_
    repeat' (first | refine rl2 ?_ | refine rs2 (fun h => ?_) (fun h => ?_) | fail)
    refine wp1 hw ?_
    repeat' (first | refine rl2 ?_ | refine rs2 (fun h => ?_) (fun h => ?_) | fail)
    refine wp1 hvals ?_
    repeat' (first | refine rl2 ?_ | refine rs2 (fun h => ?_) (fun h => ?_) | fail)
    refine b0w 12 (fun k => Nat.beq k 12 || Nat.beq k 13 || Nat.beq k 14 || Nat.beq k 15) (fun k => Nat.beq k 12 || Nat.beq k 13 || Nat.beq k 14 || Nat.beq k 15) [] [] (by dsimp only [mkE]) (by dsimp only [mkE, Fb, List.map]) ?_ ?_
    . repeat' (first | refine rl7 ?_ | refine rs7 (fun h => ?_) (fun h => ?_) | fail)
      rw [P2]
      refine Ah hm1 ?_
      repeat' (first | refine rl7 ?_ | refine rs7 (fun h => ?_) (fun h => ?_) | fail)
      rw [P2]
      refine Ah hm2 ?_
      repeat' (first | refine rl7 ?_ | refine rs7 (fun h => ?_) (fun h => ?_) | fail)
      repeat' (first | refine rl2 ?_ | refine rs2 (fun h => ?_) (fun h => ?_) | fail)
      refine wp1 v1 ?_
      repeat' (first | refine rl2 ?_ | refine rs2 (fun h => ?_) (fun h => ?_) | fail)
      refine wp1 (Aj 17 p q) ?_
      repeat' (first | refine rl2 ?_ | refine rs2 (fun h => ?_) (fun h => ?_) | fail)
      refine wp1 (A7 6 (nd 17 [p, q])) ?_
      repeat' (first | refine rl2 ?_ | refine rs2 (fun h => ?_) (fun h => ?_) | fail)
      refine wp1 v2 ?_
      repeat' (first | refine rl2 ?_ | refine rs2 (fun h => ?_) (fun h => ?_) | fail)
      refine b0 (fun k => Nat.beq k 13 || Nat.beq k 14) [(0, [1]), (3, [2])] ?_
      repeat' (first | refine rl7 ?_ | refine rs7 (fun h => ?_) (fun h => ?_) | fail)
      refine Ah (A7 6 p) ?_
      repeat' (first | refine rl7 ?_ | refine rs7 (fun h => ?_) (fun h => ?_) | fail)
      refine Ah (A7 6 q) ?_
      repeat' (first | refine rl7 ?_ | refine rs7 (fun h => ?_) (fun h => ?_) | fail)
      refine Ah (Aj 18 (nd 6 [p]) (nd 6 [q])) ?_
      repeat' (first | refine rl7 ?_ | refine rs7 (fun h => ?_) (fun h => ?_) | fail)
      refine Ah v3 ?_
      repeat' (first | refine rl7 ?_ | refine rs7 (fun h => ?_) (fun h => ?_) | fail)
      repeat' (first | refine rl2 ?_ | refine rs2 (fun h => ?_) (fun h => ?_) | fail)
      refine b0 (fun k => Nat.beq k 10 || Nat.beq k 11) [(0, [1]), (1, [2])] ?_
      repeat' (first | refine rl7 ?_ | refine rs7 (fun h => ?_) (fun h => ?_) | fail)
      refine Ah (E2 4) ?_
      repeat' (first | refine rl7 ?_ | refine rs7 (fun h => ?_) (fun h => ?_) | fail)
      refine Ah (E3 19 p q (nd 4 [])) ?_
      repeat' (first | refine rl7 ?_ | refine rs7 (fun h => ?_) (fun h => ?_) | fail)
      refine Ah v4 ?_
      repeat' (first | refine rl7 ?_ | refine rs7 (fun h => ?_) (fun h => ?_) | fail)
      repeat' (first | refine rl2 ?_ | refine rs2 (fun h => ?_) (fun h => ?_) | fail)
      refine wp1 (Aj 17 p q) ?_
      repeat' (first | refine rl2 ?_ | refine rs2 (fun h => ?_) (fun h => ?_) | fail)
      refine wp1 v5 ?_
      repeat' (first | refine rl2 ?_ | refine rs2 (fun h => ?_) (fun h => ?_) | fail)
      refine Q2 ?_
      repeat' (first | refine rl2 ?_ | refine rs2 (fun h => ?_) (fun h => ?_) | fail)
      refine Q2 ?_
      repeat' (first | refine rl2 ?_ | refine rs2 (fun h => ?_) (fun h => ?_) | fail)
      rfl
    . repeat' (first | refine rl7 ?_ | refine rs7 (fun h => ?_) (fun h => ?_) | fail)
      rw [P2]
      refine Ah hm1 ?_
      repeat' (first | refine rl7 ?_ | refine rs7 (fun h => ?_) (fun h => ?_) | fail)
      rw [P2]
      refine Ah hm2 ?_
      repeat' (first | refine rl7 ?_ | refine rs7 (fun h => ?_) (fun h => ?_) | fail)
      repeat' (first | refine rl2 ?_ | refine rs2 (fun h => ?_) (fun h => ?_) | fail)
      refine wp1 v1 ?_
      repeat' (first | refine rl2 ?_ | refine rs2 (fun h => ?_) (fun h => ?_) | fail)
      refine wp1 (Aj 17 p q) ?_
      repeat' (first | refine rl2 ?_ | refine rs2 (fun h => ?_) (fun h => ?_) | fail)
      refine wp1 (A7 6 (nd 17 [p, q])) ?_
      repeat' (first | refine rl2 ?_ | refine rs2 (fun h => ?_) (fun h => ?_) | fail)
      refine wp1 v2 ?_
      repeat' (first | refine rl2 ?_ | refine rs2 (fun h => ?_) (fun h => ?_) | fail)
      refine b0 (fun k => Nat.beq k 13 || Nat.beq k 14) [(0, [2]), (3, [1])] ?_
      repeat' (first | refine rl7 ?_ | refine rs7 (fun h => ?_) (fun h => ?_) | fail)
      refine Ah (A7 6 p) ?_
      repeat' (first | refine rl7 ?_ | refine rs7 (fun h => ?_) (fun h => ?_) | fail)
      refine Ah (A7 6 q) ?_
      repeat' (first | refine rl7 ?_ | refine rs7 (fun h => ?_) (fun h => ?_) | fail)
      refine Ah (Aj 18 (nd 6 [p]) (nd 6 [q])) ?_
      repeat' (first | refine rl7 ?_ | refine rs7 (fun h => ?_) (fun h => ?_) | fail)
      refine Ah v3 ?_
      repeat' (first | refine rl7 ?_ | refine rs7 (fun h => ?_) (fun h => ?_) | fail)
      repeat' (first | refine rl2 ?_ | refine rs2 (fun h => ?_) (fun h => ?_) | fail)
      refine b0 (fun k => Nat.beq k 10 || Nat.beq k 11) [(0, [2]), (1, [1])] ?_
      repeat' (first | refine rl7 ?_ | refine rs7 (fun h => ?_) (fun h => ?_) | fail)
      refine Ah (E2 4) ?_
      repeat' (first | refine rl7 ?_ | refine rs7 (fun h => ?_) (fun h => ?_) | fail)
      refine Ah (E3 19 p q (nd 4 [])) ?_
      repeat' (first | refine rl7 ?_ | refine rs7 (fun h => ?_) (fun h => ?_) | fail)
      refine Ah v4 ?_
      repeat' (first | refine rl7 ?_ | refine rs7 (fun h => ?_) (fun h => ?_) | fail)
      repeat' (first | refine rl2 ?_ | refine rs2 (fun h => ?_) (fun h => ?_) | fail)
      refine wp1 (Aj 17 p q) ?_
      repeat' (first | refine rl2 ?_ | refine rs2 (fun h => ?_) (fun h => ?_) | fail)
      refine wp1 v5 ?_
      repeat' (first | refine rl2 ?_ | refine rs2 (fun h => ?_) (fun h => ?_) | fail)
      refine Q2 ?_
      repeat' (first | refine rl2 ?_ | refine rs2 (fun h => ?_) (fun h => ?_) | fail)
      refine Q2 ?_
      repeat' (first | refine rl2 ?_ | refine rs2 (fun h => ?_) (fun h => ?_) | fail)
      rfl
  | some x =>
    cases x with
    | false =>
      simp only [Option.map_none, Option.bind_none, Option.map_some, Option.bind_some, Bool.not_true, Bool.not_false, if_true, if_false, Bool.false_eq_true] at v1 v2 v3 v4 v5 v6 v7
      dsimp only [tvP, tvR, tvE, vrP] at v1 v2 v3 v4 v5 v6 v7
      refine Af Tryz.func4 rfl rfl (Nat.le_of_ble_eq_true rfl) rfl (Nat.le_refl _) ?_
      repeat' (first | refine rl2 ?_ | refine rs2 (fun h => ?_) (fun h => ?_) | fail)
      refine wp1 hw ?_
      repeat' (first | refine rl2 ?_ | refine rs2 (fun h => ?_) (fun h => ?_) | fail)
      refine wp1 hvals ?_
      repeat' (first | refine rl2 ?_ | refine rs2 (fun h => ?_) (fun h => ?_) | fail)
      refine b0w 12 (fun k => Nat.beq k 12 || Nat.beq k 13 || Nat.beq k 14 || Nat.beq k 15) (fun k => Nat.beq k 12 || Nat.beq k 13 || Nat.beq k 14 || Nat.beq k 15) [] [] (by dsimp only [mkE]) (by dsimp only [mkE, Fb, List.map]) ?_ ?_
      . repeat' (first | refine rl7 ?_ | refine rs7 (fun h => ?_) (fun h => ?_) | fail)
        rw [P2]
        refine Ah hm1 ?_
        repeat' (first | refine rl7 ?_ | refine rs7 (fun h => ?_) (fun h => ?_) | fail)
        rw [P2]
        refine Ah hm2 ?_
        repeat' (first | refine rl7 ?_ | refine rs7 (fun h => ?_) (fun h => ?_) | fail)
        repeat' (first | refine rl2 ?_ | refine rs2 (fun h => ?_) (fun h => ?_) | fail)
        refine wp1 v1 ?_
        repeat' (first | refine rl2 ?_ | refine rs2 (fun h => ?_) (fun h => ?_) | fail)
        refine wp1 (Aj 17 p q) ?_
        repeat' (first | refine rl2 ?_ | refine rs2 (fun h => ?_) (fun h => ?_) | fail)
        refine wp1 (A7 6 (nd 17 [p, q])) ?_
        repeat' (first | refine rl2 ?_ | refine rs2 (fun h => ?_) (fun h => ?_) | fail)
        refine wp1 v2 ?_
        repeat' (first | refine rl2 ?_ | refine rs2 (fun h => ?_) (fun h => ?_) | fail)
        refine b0 (fun k => Nat.beq k 13 || Nat.beq k 14) [(0, [1]), (3, [2])] ?_
        repeat' (first | refine rl7 ?_ | refine rs7 (fun h => ?_) (fun h => ?_) | fail)
        refine Ah (A7 6 p) ?_
        repeat' (first | refine rl7 ?_ | refine rs7 (fun h => ?_) (fun h => ?_) | fail)
        refine Ah (A7 6 q) ?_
        repeat' (first | refine rl7 ?_ | refine rs7 (fun h => ?_) (fun h => ?_) | fail)
        refine Ah (Aj 18 (nd 6 [p]) (nd 6 [q])) ?_
        repeat' (first | refine rl7 ?_ | refine rs7 (fun h => ?_) (fun h => ?_) | fail)
        refine Ah v3 ?_
        repeat' (first | refine rl7 ?_ | refine rs7 (fun h => ?_) (fun h => ?_) | fail)
        repeat' (first | refine rl2 ?_ | refine rs2 (fun h => ?_) (fun h => ?_) | fail)
        refine b0 (fun k => Nat.beq k 10 || Nat.beq k 11) [(0, [1]), (1, [2])] ?_
        repeat' (first | refine rl7 ?_ | refine rs7 (fun h => ?_) (fun h => ?_) | fail)
        refine Ah (E2 4) ?_
        repeat' (first | refine rl7 ?_ | refine rs7 (fun h => ?_) (fun h => ?_) | fail)
        refine Ah (E3 19 p q (nd 4 [])) ?_
        repeat' (first | refine rl7 ?_ | refine rs7 (fun h => ?_) (fun h => ?_) | fail)
        refine Ah v4 ?_
        repeat' (first | refine rl7 ?_ | refine rs7 (fun h => ?_) (fun h => ?_) | fail)
        repeat' (first | refine rl2 ?_ | refine rs2 (fun h => ?_) (fun h => ?_) | fail)
        refine wp1 (Aj 17 p q) ?_
        repeat' (first | refine rl2 ?_ | refine rs2 (fun h => ?_) (fun h => ?_) | fail)
        refine wp1 v5 ?_
        repeat' (first | refine rl2 ?_ | refine rs2 (fun h => ?_) (fun h => ?_) | fail)
        refine Q2 ?_
        repeat' (first | refine rl2 ?_ | refine rs2 (fun h => ?_) (fun h => ?_) | fail)
        refine Q2 ?_
        repeat' (first | refine rl2 ?_ | refine rs2 (fun h => ?_) (fun h => ?_) | fail)
        refine wp1 z1 ?_
        repeat' (first | refine rl2 ?_ | refine rs2 (fun h => ?_) (fun h => ?_) | fail)
        refine wp1 z0 ?_
        repeat' (first | refine rl2 ?_ | refine rs2 (fun h => ?_) (fun h => ?_) | fail)
        refine wp1 (Aj 10 (.mk 1 1 ⟨#[]⟩ []) (.mk 1 0 ⟨#[]⟩ [])) ?_
        repeat' (first | refine rl2 ?_ | refine rs2 (fun h => ?_) (fun h => ?_) | fail)
        refine wp1 z1 ?_
        repeat' (first | refine rl2 ?_ | refine rs2 (fun h => ?_) (fun h => ?_) | fail)
        refine wp1 (Aj 11 (nd 10 [.mk 1 1 ⟨#[]⟩ [], .mk 1 0 ⟨#[]⟩ []]) (.mk 1 1 ⟨#[]⟩ [])) ?_
        repeat' (first | refine rl2 ?_ | refine rs2 (fun h => ?_) (fun h => ?_) | fail)
        refine wp1 (Aj 18 p Dr) ?_
        repeat' (first | refine rl2 ?_ | refine rs2 (fun h => ?_) (fun h => ?_) | fail)
        refine wp1 v6 ?_
        repeat' (first | refine rl2 ?_ | refine rs2 (fun h => ?_) (fun h => ?_) | fail)
        refine wp1 (Aj 17 p Dr) ?_
        repeat' (first | refine rl2 ?_ | refine rs2 (fun h => ?_) (fun h => ?_) | fail)
        refine wp1 v7 ?_
        repeat' (first | refine rl2 ?_ | refine rs2 (fun h => ?_) (fun h => ?_) | fail)
        refine weqT ?_
        repeat' (first | refine rl2 ?_ | refine rs2 (fun h => ?_) (fun h => ?_) | fail)
        rfl
      . repeat' (first | refine rl7 ?_ | refine rs7 (fun h => ?_) (fun h => ?_) | fail)
        rw [P2]
        refine Ah hm1 ?_
        repeat' (first | refine rl7 ?_ | refine rs7 (fun h => ?_) (fun h => ?_) | fail)
        rw [P2]
        refine Ah hm2 ?_
        repeat' (first | refine rl7 ?_ | refine rs7 (fun h => ?_) (fun h => ?_) | fail)
        repeat' (first | refine rl2 ?_ | refine rs2 (fun h => ?_) (fun h => ?_) | fail)
        refine wp1 v1 ?_
        repeat' (first | refine rl2 ?_ | refine rs2 (fun h => ?_) (fun h => ?_) | fail)
        refine wp1 (Aj 17 p q) ?_
        repeat' (first | refine rl2 ?_ | refine rs2 (fun h => ?_) (fun h => ?_) | fail)
        refine wp1 (A7 6 (nd 17 [p, q])) ?_
        repeat' (first | refine rl2 ?_ | refine rs2 (fun h => ?_) (fun h => ?_) | fail)
        refine wp1 v2 ?_
        repeat' (first | refine rl2 ?_ | refine rs2 (fun h => ?_) (fun h => ?_) | fail)
        refine b0 (fun k => Nat.beq k 13 || Nat.beq k 14) [(0, [2]), (3, [1])] ?_
        repeat' (first | refine rl7 ?_ | refine rs7 (fun h => ?_) (fun h => ?_) | fail)
        refine Ah (A7 6 p) ?_
        repeat' (first | refine rl7 ?_ | refine rs7 (fun h => ?_) (fun h => ?_) | fail)
        refine Ah (A7 6 q) ?_
        repeat' (first | refine rl7 ?_ | refine rs7 (fun h => ?_) (fun h => ?_) | fail)
        refine Ah (Aj 18 (nd 6 [p]) (nd 6 [q])) ?_
        repeat' (first | refine rl7 ?_ | refine rs7 (fun h => ?_) (fun h => ?_) | fail)
        refine Ah v3 ?_
        repeat' (first | refine rl7 ?_ | refine rs7 (fun h => ?_) (fun h => ?_) | fail)
        repeat' (first | refine rl2 ?_ | refine rs2 (fun h => ?_) (fun h => ?_) | fail)
        refine b0 (fun k => Nat.beq k 10 || Nat.beq k 11) [(0, [2]), (1, [1])] ?_
        repeat' (first | refine rl7 ?_ | refine rs7 (fun h => ?_) (fun h => ?_) | fail)
        refine Ah (E2 4) ?_
        repeat' (first | refine rl7 ?_ | refine rs7 (fun h => ?_) (fun h => ?_) | fail)
        refine Ah (E3 19 p q (nd 4 [])) ?_
        repeat' (first | refine rl7 ?_ | refine rs7 (fun h => ?_) (fun h => ?_) | fail)
        refine Ah v4 ?_
        repeat' (first | refine rl7 ?_ | refine rs7 (fun h => ?_) (fun h => ?_) | fail)
        repeat' (first | refine rl2 ?_ | refine rs2 (fun h => ?_) (fun h => ?_) | fail)
        refine wp1 (Aj 17 p q) ?_
        repeat' (first | refine rl2 ?_ | refine rs2 (fun h => ?_) (fun h => ?_) | fail)
        refine wp1 v5 ?_
        repeat' (first | refine rl2 ?_ | refine rs2 (fun h => ?_) (fun h => ?_) | fail)
        refine Q2 ?_
        repeat' (first | refine rl2 ?_ | refine rs2 (fun h => ?_) (fun h => ?_) | fail)
        refine Q2 ?_
        repeat' (first | refine rl2 ?_ | refine rs2 (fun h => ?_) (fun h => ?_) | fail)
        refine wp1 z1 ?_
        repeat' (first | refine rl2 ?_ | refine rs2 (fun h => ?_) (fun h => ?_) | fail)
        refine wp1 z0 ?_
        repeat' (first | refine rl2 ?_ | refine rs2 (fun h => ?_) (fun h => ?_) | fail)
        refine wp1 (Aj 10 (.mk 1 1 ⟨#[]⟩ []) (.mk 1 0 ⟨#[]⟩ [])) ?_
        repeat' (first | refine rl2 ?_ | refine rs2 (fun h => ?_) (fun h => ?_) | fail)
        refine wp1 z1 ?_
        repeat' (first | refine rl2 ?_ | refine rs2 (fun h => ?_) (fun h => ?_) | fail)
        refine wp1 (Aj 11 (nd 10 [.mk 1 1 ⟨#[]⟩ [], .mk 1 0 ⟨#[]⟩ []]) (.mk 1 1 ⟨#[]⟩ [])) ?_
        repeat' (first | refine rl2 ?_ | refine rs2 (fun h => ?_) (fun h => ?_) | fail)
        refine wp1 (Aj 18 p Dr) ?_
        repeat' (first | refine rl2 ?_ | refine rs2 (fun h => ?_) (fun h => ?_) | fail)
        refine wp1 v6 ?_
        repeat' (first | refine rl2 ?_ | refine rs2 (fun h => ?_) (fun h => ?_) | fail)
        refine wp1 (Aj 17 p Dr) ?_
        repeat' (first | refine rl2 ?_ | refine rs2 (fun h => ?_) (fun h => ?_) | fail)
        refine wp1 v7 ?_
        repeat' (first | refine rl2 ?_ | refine rs2 (fun h => ?_) (fun h => ?_) | fail)
        refine weqT ?_
        repeat' (first | refine rl2 ?_ | refine rs2 (fun h => ?_) (fun h => ?_) | fail)
        rfl
    | true =>
      cases Q with
      | none =>
        simp only [Option.map_none, Option.bind_none, Option.map_some, Option.bind_some, Bool.not_true, Bool.not_false, if_true, if_false, Bool.false_eq_true] at v1 v2 v3 v4 v5 v6 v7
        dsimp only [tvP, tvR, tvE, vrP] at v1 v2 v3 v4 v5 v6 v7
        refine Af Tryz.func4 rfl rfl (Nat.le_of_ble_eq_true rfl) rfl (Nat.le_refl _) ?_
        repeat' (first | refine rl2 ?_ | refine rs2 (fun h => ?_) (fun h => ?_) | fail)
        refine wp1 hw ?_
        repeat' (first | refine rl2 ?_ | refine rs2 (fun h => ?_) (fun h => ?_) | fail)
        refine wp1 hvals ?_
        repeat' (first | refine rl2 ?_ | refine rs2 (fun h => ?_) (fun h => ?_) | fail)
        refine b0w 12 (fun k => Nat.beq k 12 || Nat.beq k 13 || Nat.beq k 14 || Nat.beq k 15) (fun k => Nat.beq k 12 || Nat.beq k 13 || Nat.beq k 14 || Nat.beq k 15) [] [] (by dsimp only [mkE]) (by dsimp only [mkE, Fb, List.map]) ?_ ?_
        . repeat' (first | refine rl7 ?_ | refine rs7 (fun h => ?_) (fun h => ?_) | fail)
          rw [P2]
          refine Ah hm1 ?_
          repeat' (first | refine rl7 ?_ | refine rs7 (fun h => ?_) (fun h => ?_) | fail)
          rw [P2]
          refine Ah hm2 ?_
          repeat' (first | refine rl7 ?_ | refine rs7 (fun h => ?_) (fun h => ?_) | fail)
          repeat' (first | refine rl2 ?_ | refine rs2 (fun h => ?_) (fun h => ?_) | fail)
          refine wp1 v1 ?_
          repeat' (first | refine rl2 ?_ | refine rs2 (fun h => ?_) (fun h => ?_) | fail)
          refine wp1 (Aj 17 p q) ?_
          repeat' (first | refine rl2 ?_ | refine rs2 (fun h => ?_) (fun h => ?_) | fail)
          refine wp1 (A7 6 (nd 17 [p, q])) ?_
          repeat' (first | refine rl2 ?_ | refine rs2 (fun h => ?_) (fun h => ?_) | fail)
          refine wp1 v2 ?_
          repeat' (first | refine rl2 ?_ | refine rs2 (fun h => ?_) (fun h => ?_) | fail)
          refine b0 (fun k => Nat.beq k 13 || Nat.beq k 14) [(0, [1]), (3, [2])] ?_
          repeat' (first | refine rl7 ?_ | refine rs7 (fun h => ?_) (fun h => ?_) | fail)
          refine Ah (A7 6 p) ?_
          repeat' (first | refine rl7 ?_ | refine rs7 (fun h => ?_) (fun h => ?_) | fail)
          refine Ah (A7 6 q) ?_
          repeat' (first | refine rl7 ?_ | refine rs7 (fun h => ?_) (fun h => ?_) | fail)
          refine Ah (Aj 18 (nd 6 [p]) (nd 6 [q])) ?_
          repeat' (first | refine rl7 ?_ | refine rs7 (fun h => ?_) (fun h => ?_) | fail)
          refine Ah v3 ?_
          repeat' (first | refine rl7 ?_ | refine rs7 (fun h => ?_) (fun h => ?_) | fail)
          repeat' (first | refine rl2 ?_ | refine rs2 (fun h => ?_) (fun h => ?_) | fail)
          refine b0 (fun k => Nat.beq k 10 || Nat.beq k 11) [(0, [1]), (1, [2])] ?_
          repeat' (first | refine rl7 ?_ | refine rs7 (fun h => ?_) (fun h => ?_) | fail)
          refine Ah (E2 4) ?_
          repeat' (first | refine rl7 ?_ | refine rs7 (fun h => ?_) (fun h => ?_) | fail)
          refine Ah (E3 19 p q (nd 4 [])) ?_
          repeat' (first | refine rl7 ?_ | refine rs7 (fun h => ?_) (fun h => ?_) | fail)
          refine Ah v4 ?_
          repeat' (first | refine rl7 ?_ | refine rs7 (fun h => ?_) (fun h => ?_) | fail)
          repeat' (first | refine rl2 ?_ | refine rs2 (fun h => ?_) (fun h => ?_) | fail)
          refine wp1 (Aj 17 p q) ?_
          repeat' (first | refine rl2 ?_ | refine rs2 (fun h => ?_) (fun h => ?_) | fail)
          refine wp1 v5 ?_
          repeat' (first | refine rl2 ?_ | refine rs2 (fun h => ?_) (fun h => ?_) | fail)
          refine Q2 ?_
          repeat' (first | refine rl2 ?_ | refine rs2 (fun h => ?_) (fun h => ?_) | fail)
          refine Q2 ?_
          repeat' (first | refine rl2 ?_ | refine rs2 (fun h => ?_) (fun h => ?_) | fail)
          refine wp1 z1 ?_
          repeat' (first | refine rl2 ?_ | refine rs2 (fun h => ?_) (fun h => ?_) | fail)
          refine wp1 z0 ?_
          repeat' (first | refine rl2 ?_ | refine rs2 (fun h => ?_) (fun h => ?_) | fail)
          refine wp1 (Aj 10 (.mk 1 1 ⟨#[]⟩ []) (.mk 1 0 ⟨#[]⟩ [])) ?_
          repeat' (first | refine rl2 ?_ | refine rs2 (fun h => ?_) (fun h => ?_) | fail)
          refine wp1 z1 ?_
          repeat' (first | refine rl2 ?_ | refine rs2 (fun h => ?_) (fun h => ?_) | fail)
          refine wp1 (Aj 11 (nd 10 [.mk 1 1 ⟨#[]⟩ [], .mk 1 0 ⟨#[]⟩ []]) (.mk 1 1 ⟨#[]⟩ [])) ?_
          repeat' (first | refine rl2 ?_ | refine rs2 (fun h => ?_) (fun h => ?_) | fail)
          refine wp1 (Aj 18 p Dr) ?_
          repeat' (first | refine rl2 ?_ | refine rs2 (fun h => ?_) (fun h => ?_) | fail)
          refine wp1 v6 ?_
          repeat' (first | refine rl2 ?_ | refine rs2 (fun h => ?_) (fun h => ?_) | fail)
          refine wp1 (Aj 17 p Dr) ?_
          repeat' (first | refine rl2 ?_ | refine rs2 (fun h => ?_) (fun h => ?_) | fail)
          refine wp1 v7 ?_
          repeat' (first | refine rl2 ?_ | refine rs2 (fun h => ?_) (fun h => ?_) | fail)
          refine weqT ?_
          repeat' (first | refine rl2 ?_ | refine rs2 (fun h => ?_) (fun h => ?_) | fail)
          rfl
        . repeat' (first | refine rl7 ?_ | refine rs7 (fun h => ?_) (fun h => ?_) | fail)
          rw [P2]
          refine Ah hm1 ?_
          repeat' (first | refine rl7 ?_ | refine rs7 (fun h => ?_) (fun h => ?_) | fail)
          rw [P2]
          refine Ah hm2 ?_
          repeat' (first | refine rl7 ?_ | refine rs7 (fun h => ?_) (fun h => ?_) | fail)
          repeat' (first | refine rl2 ?_ | refine rs2 (fun h => ?_) (fun h => ?_) | fail)
          refine wp1 v1 ?_
          repeat' (first | refine rl2 ?_ | refine rs2 (fun h => ?_) (fun h => ?_) | fail)
          refine wp1 (Aj 17 p q) ?_
          repeat' (first | refine rl2 ?_ | refine rs2 (fun h => ?_) (fun h => ?_) | fail)
          refine wp1 (A7 6 (nd 17 [p, q])) ?_
          repeat' (first | refine rl2 ?_ | refine rs2 (fun h => ?_) (fun h => ?_) | fail)
          refine wp1 v2 ?_
          repeat' (first | refine rl2 ?_ | refine rs2 (fun h => ?_) (fun h => ?_) | fail)
          refine b0 (fun k => Nat.beq k 13 || Nat.beq k 14) [(0, [2]), (3, [1])] ?_
          repeat' (first | refine rl7 ?_ | refine rs7 (fun h => ?_) (fun h => ?_) | fail)
          refine Ah (A7 6 p) ?_
          repeat' (first | refine rl7 ?_ | refine rs7 (fun h => ?_) (fun h => ?_) | fail)
          refine Ah (A7 6 q) ?_
          repeat' (first | refine rl7 ?_ | refine rs7 (fun h => ?_) (fun h => ?_) | fail)
          refine Ah (Aj 18 (nd 6 [p]) (nd 6 [q])) ?_
          repeat' (first | refine rl7 ?_ | refine rs7 (fun h => ?_) (fun h => ?_) | fail)
          refine Ah v3 ?_
          repeat' (first | refine rl7 ?_ | refine rs7 (fun h => ?_) (fun h => ?_) | fail)
          repeat' (first | refine rl2 ?_ | refine rs2 (fun h => ?_) (fun h => ?_) | fail)
          refine b0 (fun k => Nat.beq k 10 || Nat.beq k 11) [(0, [2]), (1, [1])] ?_
          repeat' (first | refine rl7 ?_ | refine rs7 (fun h => ?_) (fun h => ?_) | fail)
          refine Ah (E2 4) ?_
          repeat' (first | refine rl7 ?_ | refine rs7 (fun h => ?_) (fun h => ?_) | fail)
          refine Ah (E3 19 p q (nd 4 [])) ?_
          repeat' (first | refine rl7 ?_ | refine rs7 (fun h => ?_) (fun h => ?_) | fail)
          refine Ah v4 ?_
          repeat' (first | refine rl7 ?_ | refine rs7 (fun h => ?_) (fun h => ?_) | fail)
          repeat' (first | refine rl2 ?_ | refine rs2 (fun h => ?_) (fun h => ?_) | fail)
          refine wp1 (Aj 17 p q) ?_
          repeat' (first | refine rl2 ?_ | refine rs2 (fun h => ?_) (fun h => ?_) | fail)
          refine wp1 v5 ?_
          repeat' (first | refine rl2 ?_ | refine rs2 (fun h => ?_) (fun h => ?_) | fail)
          refine Q2 ?_
          repeat' (first | refine rl2 ?_ | refine rs2 (fun h => ?_) (fun h => ?_) | fail)
          refine Q2 ?_
          repeat' (first | refine rl2 ?_ | refine rs2 (fun h => ?_) (fun h => ?_) | fail)
          refine wp1 z1 ?_
          repeat' (first | refine rl2 ?_ | refine rs2 (fun h => ?_) (fun h => ?_) | fail)
          refine wp1 z0 ?_
          repeat' (first | refine rl2 ?_ | refine rs2 (fun h => ?_) (fun h => ?_) | fail)
          refine wp1 (Aj 10 (.mk 1 1 ⟨#[]⟩ []) (.mk 1 0 ⟨#[]⟩ [])) ?_
          repeat' (first | refine rl2 ?_ | refine rs2 (fun h => ?_) (fun h => ?_) | fail)
          refine wp1 z1 ?_
          repeat' (first | refine rl2 ?_ | refine rs2 (fun h => ?_) (fun h => ?_) | fail)
          refine wp1 (Aj 11 (nd 10 [.mk 1 1 ⟨#[]⟩ [], .mk 1 0 ⟨#[]⟩ []]) (.mk 1 1 ⟨#[]⟩ [])) ?_
          repeat' (first | refine rl2 ?_ | refine rs2 (fun h => ?_) (fun h => ?_) | fail)
          refine wp1 (Aj 18 p Dr) ?_
          repeat' (first | refine rl2 ?_ | refine rs2 (fun h => ?_) (fun h => ?_) | fail)
          refine wp1 v6 ?_
          repeat' (first | refine rl2 ?_ | refine rs2 (fun h => ?_) (fun h => ?_) | fail)
          refine wp1 (Aj 17 p Dr) ?_
          repeat' (first | refine rl2 ?_ | refine rs2 (fun h => ?_) (fun h => ?_) | fail)
          refine wp1 v7 ?_
          repeat' (first | refine rl2 ?_ | refine rs2 (fun h => ?_) (fun h => ?_) | fail)
          refine weqT ?_
          repeat' (first | refine rl2 ?_ | refine rs2 (fun h => ?_) (fun h => ?_) | fail)
          rfl
      | some y =>
        cases y with
        | false =>
          simp only [Option.map_none, Option.bind_none, Option.map_some, Option.bind_some, Bool.not_true, Bool.not_false, if_true, if_false, Bool.false_eq_true] at v1 v2 v3 v4 v5 v6 v7
          dsimp only [tvP, tvR, tvE, vrP] at v1 v2 v3 v4 v5 v6 v7
          refine Af Tryz.func4 rfl rfl (Nat.le_of_ble_eq_true rfl) rfl (Nat.le_refl _) ?_
          repeat' (first | refine rl2 ?_ | refine rs2 (fun h => ?_) (fun h => ?_) | fail)
          refine wp1 hw ?_
          repeat' (first | refine rl2 ?_ | refine rs2 (fun h => ?_) (fun h => ?_) | fail)
          refine wp1 hvals ?_
          repeat' (first | refine rl2 ?_ | refine rs2 (fun h => ?_) (fun h => ?_) | fail)
          refine b0w 12 (fun k => Nat.beq k 12 || Nat.beq k 13 || Nat.beq k 14 || Nat.beq k 15) (fun k => Nat.beq k 12 || Nat.beq k 13 || Nat.beq k 14 || Nat.beq k 15) [] [] (by dsimp only [mkE]) (by dsimp only [mkE, Fb, List.map]) ?_ ?_
          . repeat' (first | refine rl7 ?_ | refine rs7 (fun h => ?_) (fun h => ?_) | fail)
            rw [P2]
            refine Ah hm1 ?_
            repeat' (first | refine rl7 ?_ | refine rs7 (fun h => ?_) (fun h => ?_) | fail)
            rw [P2]
            refine Ah hm2 ?_
            repeat' (first | refine rl7 ?_ | refine rs7 (fun h => ?_) (fun h => ?_) | fail)
            repeat' (first | refine rl2 ?_ | refine rs2 (fun h => ?_) (fun h => ?_) | fail)
            refine wp1 v1 ?_
            repeat' (first | refine rl2 ?_ | refine rs2 (fun h => ?_) (fun h => ?_) | fail)
            refine wp1 (Aj 17 p q) ?_
            repeat' (first | refine rl2 ?_ | refine rs2 (fun h => ?_) (fun h => ?_) | fail)
            refine wp1 (A7 6 (nd 17 [p, q])) ?_
            repeat' (first | refine rl2 ?_ | refine rs2 (fun h => ?_) (fun h => ?_) | fail)
            refine wp1 v2 ?_
            repeat' (first | refine rl2 ?_ | refine rs2 (fun h => ?_) (fun h => ?_) | fail)
            refine b0 (fun k => Nat.beq k 13 || Nat.beq k 14) [(0, [1]), (3, [2])] ?_
            repeat' (first | refine rl7 ?_ | refine rs7 (fun h => ?_) (fun h => ?_) | fail)
            refine Ah (A7 6 p) ?_
            repeat' (first | refine rl7 ?_ | refine rs7 (fun h => ?_) (fun h => ?_) | fail)
            refine Ah (A7 6 q) ?_
            repeat' (first | refine rl7 ?_ | refine rs7 (fun h => ?_) (fun h => ?_) | fail)
            refine Ah (Aj 18 (nd 6 [p]) (nd 6 [q])) ?_
            repeat' (first | refine rl7 ?_ | refine rs7 (fun h => ?_) (fun h => ?_) | fail)
            refine Ah v3 ?_
            repeat' (first | refine rl7 ?_ | refine rs7 (fun h => ?_) (fun h => ?_) | fail)
            repeat' (first | refine rl2 ?_ | refine rs2 (fun h => ?_) (fun h => ?_) | fail)
            refine b0 (fun k => Nat.beq k 10 || Nat.beq k 11) [(0, [1]), (1, [2])] ?_
            repeat' (first | refine rl7 ?_ | refine rs7 (fun h => ?_) (fun h => ?_) | fail)
            refine Ah (E2 4) ?_
            repeat' (first | refine rl7 ?_ | refine rs7 (fun h => ?_) (fun h => ?_) | fail)
            refine Ah (E3 19 p q (nd 4 [])) ?_
            repeat' (first | refine rl7 ?_ | refine rs7 (fun h => ?_) (fun h => ?_) | fail)
            refine Ah v4 ?_
            repeat' (first | refine rl7 ?_ | refine rs7 (fun h => ?_) (fun h => ?_) | fail)
            repeat' (first | refine rl2 ?_ | refine rs2 (fun h => ?_) (fun h => ?_) | fail)
            refine wp1 (Aj 17 p q) ?_
            repeat' (first | refine rl2 ?_ | refine rs2 (fun h => ?_) (fun h => ?_) | fail)
            refine wp1 v5 ?_
            repeat' (first | refine rl2 ?_ | refine rs2 (fun h => ?_) (fun h => ?_) | fail)
            refine Q2 ?_
            repeat' (first | refine rl2 ?_ | refine rs2 (fun h => ?_) (fun h => ?_) | fail)
            refine Q2 ?_
            repeat' (first | refine rl2 ?_ | refine rs2 (fun h => ?_) (fun h => ?_) | fail)
            refine wp1 z1 ?_
            repeat' (first | refine rl2 ?_ | refine rs2 (fun h => ?_) (fun h => ?_) | fail)
            refine wp1 z0 ?_
            repeat' (first | refine rl2 ?_ | refine rs2 (fun h => ?_) (fun h => ?_) | fail)
            refine wp1 (Aj 10 (.mk 1 1 ⟨#[]⟩ []) (.mk 1 0 ⟨#[]⟩ [])) ?_
            repeat' (first | refine rl2 ?_ | refine rs2 (fun h => ?_) (fun h => ?_) | fail)
            refine wp1 z1 ?_
            repeat' (first | refine rl2 ?_ | refine rs2 (fun h => ?_) (fun h => ?_) | fail)
            refine wp1 (Aj 11 (nd 10 [.mk 1 1 ⟨#[]⟩ [], .mk 1 0 ⟨#[]⟩ []]) (.mk 1 1 ⟨#[]⟩ [])) ?_
            repeat' (first | refine rl2 ?_ | refine rs2 (fun h => ?_) (fun h => ?_) | fail)
            refine wp1 (Aj 18 p Dr) ?_
            repeat' (first | refine rl2 ?_ | refine rs2 (fun h => ?_) (fun h => ?_) | fail)
            refine wp1 v6 ?_
            repeat' (first | refine rl2 ?_ | refine rs2 (fun h => ?_) (fun h => ?_) | fail)
            refine wp1 (Aj 17 p Dr) ?_
            repeat' (first | refine rl2 ?_ | refine rs2 (fun h => ?_) (fun h => ?_) | fail)
            refine wp1 v7 ?_
            repeat' (first | refine rl2 ?_ | refine rs2 (fun h => ?_) (fun h => ?_) | fail)
            refine weqT ?_
            repeat' (first | refine rl2 ?_ | refine rs2 (fun h => ?_) (fun h => ?_) | fail)
            rfl
          . repeat' (first | refine rl7 ?_ | refine rs7 (fun h => ?_) (fun h => ?_) | fail)
            rw [P2]
            refine Ah hm1 ?_
            repeat' (first | refine rl7 ?_ | refine rs7 (fun h => ?_) (fun h => ?_) | fail)
            rw [P2]
            refine Ah hm2 ?_
            repeat' (first | refine rl7 ?_ | refine rs7 (fun h => ?_) (fun h => ?_) | fail)
            repeat' (first | refine rl2 ?_ | refine rs2 (fun h => ?_) (fun h => ?_) | fail)
            refine wp1 v1 ?_
            repeat' (first | refine rl2 ?_ | refine rs2 (fun h => ?_) (fun h => ?_) | fail)
            refine wp1 (Aj 17 p q) ?_
            repeat' (first | refine rl2 ?_ | refine rs2 (fun h => ?_) (fun h => ?_) | fail)
            refine wp1 (A7 6 (nd 17 [p, q])) ?_
            repeat' (first | refine rl2 ?_ | refine rs2 (fun h => ?_) (fun h => ?_) | fail)
            refine wp1 v2 ?_
            repeat' (first | refine rl2 ?_ | refine rs2 (fun h => ?_) (fun h => ?_) | fail)
            refine b0 (fun k => Nat.beq k 13 || Nat.beq k 14) [(0, [2]), (3, [1])] ?_
            repeat' (first | refine rl7 ?_ | refine rs7 (fun h => ?_) (fun h => ?_) | fail)
            refine Ah (A7 6 p) ?_
            repeat' (first | refine rl7 ?_ | refine rs7 (fun h => ?_) (fun h => ?_) | fail)
            refine Ah (A7 6 q) ?_
            repeat' (first | refine rl7 ?_ | refine rs7 (fun h => ?_) (fun h => ?_) | fail)
            refine Ah (Aj 18 (nd 6 [p]) (nd 6 [q])) ?_
            repeat' (first | refine rl7 ?_ | refine rs7 (fun h => ?_) (fun h => ?_) | fail)
            refine Ah v3 ?_
            repeat' (first | refine rl7 ?_ | refine rs7 (fun h => ?_) (fun h => ?_) | fail)
            repeat' (first | refine rl2 ?_ | refine rs2 (fun h => ?_) (fun h => ?_) | fail)
            refine b0 (fun k => Nat.beq k 10 || Nat.beq k 11) [(0, [2]), (1, [1])] ?_
            repeat' (first | refine rl7 ?_ | refine rs7 (fun h => ?_) (fun h => ?_) | fail)
            refine Ah (E2 4) ?_
            repeat' (first | refine rl7 ?_ | refine rs7 (fun h => ?_) (fun h => ?_) | fail)
            refine Ah (E3 19 p q (nd 4 [])) ?_
            repeat' (first | refine rl7 ?_ | refine rs7 (fun h => ?_) (fun h => ?_) | fail)
            refine Ah v4 ?_
            repeat' (first | refine rl7 ?_ | refine rs7 (fun h => ?_) (fun h => ?_) | fail)
            repeat' (first | refine rl2 ?_ | refine rs2 (fun h => ?_) (fun h => ?_) | fail)
            refine wp1 (Aj 17 p q) ?_
            repeat' (first | refine rl2 ?_ | refine rs2 (fun h => ?_) (fun h => ?_) | fail)
            refine wp1 v5 ?_
            repeat' (first | refine rl2 ?_ | refine rs2 (fun h => ?_) (fun h => ?_) | fail)
            refine Q2 ?_
            repeat' (first | refine rl2 ?_ | refine rs2 (fun h => ?_) (fun h => ?_) | fail)
            refine Q2 ?_
            repeat' (first | refine rl2 ?_ | refine rs2 (fun h => ?_) (fun h => ?_) | fail)
            refine wp1 z1 ?_
            repeat' (first | refine rl2 ?_ | refine rs2 (fun h => ?_) (fun h => ?_) | fail)
            refine wp1 z0 ?_
            repeat' (first | refine rl2 ?_ | refine rs2 (fun h => ?_) (fun h => ?_) | fail)
            refine wp1 (Aj 10 (.mk 1 1 ⟨#[]⟩ []) (.mk 1 0 ⟨#[]⟩ [])) ?_
            repeat' (first | refine rl2 ?_ | refine rs2 (fun h => ?_) (fun h => ?_) | fail)
            refine wp1 z1 ?_
            repeat' (first | refine rl2 ?_ | refine rs2 (fun h => ?_) (fun h => ?_) | fail)
            refine wp1 (Aj 11 (nd 10 [.mk 1 1 ⟨#[]⟩ [], .mk 1 0 ⟨#[]⟩ []]) (.mk 1 1 ⟨#[]⟩ [])) ?_
            repeat' (first | refine rl2 ?_ | refine rs2 (fun h => ?_) (fun h => ?_) | fail)
            refine wp1 (Aj 18 p Dr) ?_
            repeat' (first | refine rl2 ?_ | refine rs2 (fun h => ?_) (fun h => ?_) | fail)
            refine wp1 v6 ?_
            repeat' (first | refine rl2 ?_ | refine rs2 (fun h => ?_) (fun h => ?_) | fail)
            refine wp1 (Aj 17 p Dr) ?_
            repeat' (first | refine rl2 ?_ | refine rs2 (fun h => ?_) (fun h => ?_) | fail)
            refine wp1 v7 ?_
            repeat' (first | refine rl2 ?_ | refine rs2 (fun h => ?_) (fun h => ?_) | fail)
            refine weqT ?_
            repeat' (first | refine rl2 ?_ | refine rs2 (fun h => ?_) (fun h => ?_) | fail)
            rfl
        | true =>
          simp only [Option.map_none, Option.bind_none, Option.map_some, Option.bind_some, Bool.not_true, Bool.not_false, if_true, if_false, Bool.false_eq_true] at v1 v2 v3 v4 v5 v6 v7
          dsimp only [tvP, tvR, tvE, vrP] at v1 v2 v3 v4 v5 v6 v7
          refine Af Tryz.func4 rfl rfl (Nat.le_of_ble_eq_true rfl) rfl (Nat.le_refl _) ?_
          repeat' (first | refine rl2 ?_ | refine rs2 (fun h => ?_) (fun h => ?_) | fail)
          refine wp1 hw ?_
          repeat' (first | refine rl2 ?_ | refine rs2 (fun h => ?_) (fun h => ?_) | fail)
          refine wp1 hvals ?_
          repeat' (first | refine rl2 ?_ | refine rs2 (fun h => ?_) (fun h => ?_) | fail)
          refine b0w 12 (fun k => Nat.beq k 12 || Nat.beq k 13 || Nat.beq k 14 || Nat.beq k 15) (fun k => Nat.beq k 12 || Nat.beq k 13 || Nat.beq k 14 || Nat.beq k 15) [] [] (by dsimp only [mkE]) (by dsimp only [mkE, Fb, List.map]) ?_ ?_
          . repeat' (first | refine rl7 ?_ | refine rs7 (fun h => ?_) (fun h => ?_) | fail)
            rw [P2]
            refine Ah hm1 ?_
            repeat' (first | refine rl7 ?_ | refine rs7 (fun h => ?_) (fun h => ?_) | fail)
            rw [P2]
            refine Ah hm2 ?_
            repeat' (first | refine rl7 ?_ | refine rs7 (fun h => ?_) (fun h => ?_) | fail)
            repeat' (first | refine rl2 ?_ | refine rs2 (fun h => ?_) (fun h => ?_) | fail)
            refine wp1 v1 ?_
            repeat' (first | refine rl2 ?_ | refine rs2 (fun h => ?_) (fun h => ?_) | fail)
            refine wp1 (Aj 17 p q) ?_
            repeat' (first | refine rl2 ?_ | refine rs2 (fun h => ?_) (fun h => ?_) | fail)
            refine wp1 (A7 6 (nd 17 [p, q])) ?_
            repeat' (first | refine rl2 ?_ | refine rs2 (fun h => ?_) (fun h => ?_) | fail)
            refine wp1 v2 ?_
            repeat' (first | refine rl2 ?_ | refine rs2 (fun h => ?_) (fun h => ?_) | fail)
            refine b0 (fun k => Nat.beq k 13 || Nat.beq k 14) [(0, [1]), (3, [2])] ?_
            repeat' (first | refine rl7 ?_ | refine rs7 (fun h => ?_) (fun h => ?_) | fail)
            refine Ah (A7 6 p) ?_
            repeat' (first | refine rl7 ?_ | refine rs7 (fun h => ?_) (fun h => ?_) | fail)
            refine Ah (A7 6 q) ?_
            repeat' (first | refine rl7 ?_ | refine rs7 (fun h => ?_) (fun h => ?_) | fail)
            refine Ah (Aj 18 (nd 6 [p]) (nd 6 [q])) ?_
            repeat' (first | refine rl7 ?_ | refine rs7 (fun h => ?_) (fun h => ?_) | fail)
            refine Ah v3 ?_
            repeat' (first | refine rl7 ?_ | refine rs7 (fun h => ?_) (fun h => ?_) | fail)
            repeat' (first | refine rl2 ?_ | refine rs2 (fun h => ?_) (fun h => ?_) | fail)
            refine b0 (fun k => Nat.beq k 10 || Nat.beq k 11) [(0, [1]), (1, [2])] ?_
            repeat' (first | refine rl7 ?_ | refine rs7 (fun h => ?_) (fun h => ?_) | fail)
            refine Ah (E2 4) ?_
            repeat' (first | refine rl7 ?_ | refine rs7 (fun h => ?_) (fun h => ?_) | fail)
            refine Ah (E3 19 p q (nd 4 [])) ?_
            repeat' (first | refine rl7 ?_ | refine rs7 (fun h => ?_) (fun h => ?_) | fail)
            refine Ah v4 ?_
            repeat' (first | refine rl7 ?_ | refine rs7 (fun h => ?_) (fun h => ?_) | fail)
            repeat' (first | refine rl2 ?_ | refine rs2 (fun h => ?_) (fun h => ?_) | fail)
            refine wp1 (Aj 17 p q) ?_
            repeat' (first | refine rl2 ?_ | refine rs2 (fun h => ?_) (fun h => ?_) | fail)
            refine wp1 v5 ?_
            repeat' (first | refine rl2 ?_ | refine rs2 (fun h => ?_) (fun h => ?_) | fail)
            refine Q2 ?_
            repeat' (first | refine rl2 ?_ | refine rs2 (fun h => ?_) (fun h => ?_) | fail)
            refine Q2 ?_
            repeat' (first | refine rl2 ?_ | refine rs2 (fun h => ?_) (fun h => ?_) | fail)
            refine wp1 z1 ?_
            repeat' (first | refine rl2 ?_ | refine rs2 (fun h => ?_) (fun h => ?_) | fail)
            refine wp1 z0 ?_
            repeat' (first | refine rl2 ?_ | refine rs2 (fun h => ?_) (fun h => ?_) | fail)
            refine wp1 (Aj 10 (.mk 1 1 ⟨#[]⟩ []) (.mk 1 0 ⟨#[]⟩ [])) ?_
            repeat' (first | refine rl2 ?_ | refine rs2 (fun h => ?_) (fun h => ?_) | fail)
            refine wp1 z1 ?_
            repeat' (first | refine rl2 ?_ | refine rs2 (fun h => ?_) (fun h => ?_) | fail)
            refine wp1 (Aj 11 (nd 10 [.mk 1 1 ⟨#[]⟩ [], .mk 1 0 ⟨#[]⟩ []]) (.mk 1 1 ⟨#[]⟩ [])) ?_
            repeat' (first | refine rl2 ?_ | refine rs2 (fun h => ?_) (fun h => ?_) | fail)
            refine wp1 (Aj 18 p Dr) ?_
            repeat' (first | refine rl2 ?_ | refine rs2 (fun h => ?_) (fun h => ?_) | fail)
            refine wp1 v6 ?_
            repeat' (first | refine rl2 ?_ | refine rs2 (fun h => ?_) (fun h => ?_) | fail)
            refine wp1 (Aj 17 p Dr) ?_
            repeat' (first | refine rl2 ?_ | refine rs2 (fun h => ?_) (fun h => ?_) | fail)
            refine wp1 v7 ?_
            repeat' (first | refine rl2 ?_ | refine rs2 (fun h => ?_) (fun h => ?_) | fail)
            refine weqT ?_
            repeat' (first | refine rl2 ?_ | refine rs2 (fun h => ?_) (fun h => ?_) | fail)
            rfl
          . repeat' (first | refine rl7 ?_ | refine rs7 (fun h => ?_) (fun h => ?_) | fail)
            rw [P2]
            refine Ah hm1 ?_
            repeat' (first | refine rl7 ?_ | refine rs7 (fun h => ?_) (fun h => ?_) | fail)
            rw [P2]
            refine Ah hm2 ?_
            repeat' (first | refine rl7 ?_ | refine rs7 (fun h => ?_) (fun h => ?_) | fail)
            repeat' (first | refine rl2 ?_ | refine rs2 (fun h => ?_) (fun h => ?_) | fail)
            refine wp1 v1 ?_
            repeat' (first | refine rl2 ?_ | refine rs2 (fun h => ?_) (fun h => ?_) | fail)
            refine wp1 (Aj 17 p q) ?_
            repeat' (first | refine rl2 ?_ | refine rs2 (fun h => ?_) (fun h => ?_) | fail)
            refine wp1 (A7 6 (nd 17 [p, q])) ?_
            repeat' (first | refine rl2 ?_ | refine rs2 (fun h => ?_) (fun h => ?_) | fail)
            refine wp1 v2 ?_
            repeat' (first | refine rl2 ?_ | refine rs2 (fun h => ?_) (fun h => ?_) | fail)
            refine b0 (fun k => Nat.beq k 13 || Nat.beq k 14) [(0, [2]), (3, [1])] ?_
            repeat' (first | refine rl7 ?_ | refine rs7 (fun h => ?_) (fun h => ?_) | fail)
            refine Ah (A7 6 p) ?_
            repeat' (first | refine rl7 ?_ | refine rs7 (fun h => ?_) (fun h => ?_) | fail)
            refine Ah (A7 6 q) ?_
            repeat' (first | refine rl7 ?_ | refine rs7 (fun h => ?_) (fun h => ?_) | fail)
            refine Ah (Aj 18 (nd 6 [p]) (nd 6 [q])) ?_
            repeat' (first | refine rl7 ?_ | refine rs7 (fun h => ?_) (fun h => ?_) | fail)
            refine Ah v3 ?_
            repeat' (first | refine rl7 ?_ | refine rs7 (fun h => ?_) (fun h => ?_) | fail)
            repeat' (first | refine rl2 ?_ | refine rs2 (fun h => ?_) (fun h => ?_) | fail)
            refine b0 (fun k => Nat.beq k 10 || Nat.beq k 11) [(0, [2]), (1, [1])] ?_
            repeat' (first | refine rl7 ?_ | refine rs7 (fun h => ?_) (fun h => ?_) | fail)
            refine Ah (E2 4) ?_
            repeat' (first | refine rl7 ?_ | refine rs7 (fun h => ?_) (fun h => ?_) | fail)
            refine Ah (E3 19 p q (nd 4 [])) ?_
            repeat' (first | refine rl7 ?_ | refine rs7 (fun h => ?_) (fun h => ?_) | fail)
            refine Ah v4 ?_
            repeat' (first | refine rl7 ?_ | refine rs7 (fun h => ?_) (fun h => ?_) | fail)
            repeat' (first | refine rl2 ?_ | refine rs2 (fun h => ?_) (fun h => ?_) | fail)
            refine wp1 (Aj 17 p q) ?_
            repeat' (first | refine rl2 ?_ | refine rs2 (fun h => ?_) (fun h => ?_) | fail)
            refine wp1 v5 ?_
            repeat' (first | refine rl2 ?_ | refine rs2 (fun h => ?_) (fun h => ?_) | fail)
            refine Q2 ?_
            repeat' (first | refine rl2 ?_ | refine rs2 (fun h => ?_) (fun h => ?_) | fail)
            refine Q2 ?_
            repeat' (first | refine rl2 ?_ | refine rs2 (fun h => ?_) (fun h => ?_) | fail)
            refine wp1 z1 ?_
            repeat' (first | refine rl2 ?_ | refine rs2 (fun h => ?_) (fun h => ?_) | fail)
            refine wp1 z0 ?_
            repeat' (first | refine rl2 ?_ | refine rs2 (fun h => ?_) (fun h => ?_) | fail)
            refine wp1 (Aj 10 (.mk 1 1 ⟨#[]⟩ []) (.mk 1 0 ⟨#[]⟩ [])) ?_
            repeat' (first | refine rl2 ?_ | refine rs2 (fun h => ?_) (fun h => ?_) | fail)
            refine wp1 z1 ?_
            repeat' (first | refine rl2 ?_ | refine rs2 (fun h => ?_) (fun h => ?_) | fail)
            refine wp1 (Aj 11 (nd 10 [.mk 1 1 ⟨#[]⟩ [], .mk 1 0 ⟨#[]⟩ []]) (.mk 1 1 ⟨#[]⟩ [])) ?_
            repeat' (first | refine rl2 ?_ | refine rs2 (fun h => ?_) (fun h => ?_) | fail)
            refine wp1 (Aj 18 p Dr) ?_
            repeat' (first | refine rl2 ?_ | refine rs2 (fun h => ?_) (fun h => ?_) | fail)
            refine wp1 v6 ?_
            repeat' (first | refine rl2 ?_ | refine rs2 (fun h => ?_) (fun h => ?_) | fail)
            refine wp1 (Aj 17 p Dr) ?_
            repeat' (first | refine rl2 ?_ | refine rs2 (fun h => ?_) (fun h => ?_) | fail)
            refine wp1 v7 ?_
            repeat' (first | refine rl2 ?_ | refine rs2 (fun h => ?_) (fun h => ?_) | fail)
            refine weqT ?_
            repeat' (first | refine rl2 ?_ | refine rs2 (fun h => ?_) (fun h => ?_) | fail)
            rfl
end Go.Proofs.YtjagmmmcibdibaaGreatDoor
