/- A part of the proofs of some statements of this chapter: texts of these claims, merged. -/
import Derived.Below
import Derived.WalkKit
import Derived.BigQuiet
import Derived.Lib.Hide
import Derived.ControlIn
import Derived.OwnWalkIn
import Derived.Lib.ItoaNum
import Derived.OrdersIn
import Derived.TacticsIn
import Derived.Deep.MidRow
import Derived.OpenShut
import Derived.Lib.SmallJoins
import Derived.Laws.Tables
import Derived.Laws.OwnMore
import Derived.Orders
import Derived.Test.YtiledamgmppcmaaGreatDoorProg
import Derived.Shelf.Abstract
import Derived.Test.YtiledamgmppcmaaGreatDoorRows
import Derived.Carry
import Derived.Lib.LaidU8
import Derived.Lib.LaidTab
import Derived.Lay
import Derived.MakeChecks
import Derived.Laws.Strings
import Derived.WalkSpells
import Derived.WalkLawsBesides
import Derived.Laws.EntriesVeiled
import Derived.Deep.RegionHeld3
import Derived.Deep.QuietTactic
import Derived.Lib.Bytealg
import Derived.Shelf.Strings.Builder1
import Derived.Shelf.Small.Strs
import Derived.Shelf.Small.Wraps
import Derived.Shelf.Strings.BuilderF
import Derived.Shelf.Strings.BuilderK
import Derived.Shelf.Strconv.Atoi
import Derived.Shelf.Strconv.Itoa0
import Derived.Shelf.Strconv.Itoa1
import Derived.Shelf.LaysM
import Derived.Shelf.Strconv.Itoa2
import Derived.Shelf.Strconv.Itoa3
import Derived.Shelf.Strconv.AtoiErrFast
import Derived.Shelf.Strconv.ParseIntEmpty
import Derived.Shelf.Strconv.AtoiFail
import Derived.Shelf.Strconv.Clone
import Derived.Shelf.Strconv.SyntaxError
import Derived.Shelf.LaysC
import Derived.Shelf.Strconv.ToError
import Derived.Shelf.Strconv.AtoiErr
import Derived.Shelf.Strconv.ErrVar
import Derived.Shelf.Strconv.Lower
import Derived.Shelf.Strconv.ParseUint10
import Derived.Shelf.Strconv.ParseUint10Empty
import Derived.Shelf.Strconv.ParseUint10Any
import Derived.Shelf.Strconv.ParseInt10
import Derived.Shelf.Strconv.AtoiLong
import Derived.Shelf.Strconv.AtoiInnerAll
import Derived.Shelf.Strconv.RangeError
import Derived.Shelf.Strconv.ToErrorRange
import Derived.Shelf.Strconv.AtoiAll
import Derived.Shelf.Strconv.ErrVarAll
import Derived.Shelf.Strconv.ParseUintEmpty
import Derived.Shelf.Strconv.ParseUint10b64
import Derived.Shelf.Strconv.ParseUint10b32
import Derived.Shelf.Strconv.ParseUint10b16
import Derived.Shelf.Strconv.ParseUint10b8
import Derived.Shelf.Strconv.ParseUint10At
import Derived.Ground.MpProg
import Derived.Shelf.Pu.ParseUintPublic10
import Derived.Shelf.Pu.ErrVarParseUint
import Derived.Shelf.Strings.Search1
import Derived.Shelf.Strings.Search2
import Derived.Shelf.Strings.Cut
import Derived.Shelf.Strings.Shaped
import Derived.Shelf.Strings.Prefix
import Derived.Deep.DeepCutAuto
import Derived.Lib.IndexBytes
import Derived.Deep.LoopGhost
import Derived.StillTail
import Derived.BigRegion
import Derived.Deep.CutBlock
import Derived.RangeFuncBox
import Derived.RangeFuncLeaves
import Derived.RangeFuncCalls
import Derived.TacticsInMore
import Derived.LoopNIn
import Derived.LoopIn
import Derived.RecoverIn
import Derived.RangeFuncNested
import Derived.Maps.AppendAt
import Derived.Shelf.RegionOpen
import Derived.Laws.StructEq
import Derived.Lib.Join
import Derived.Deep.AppendLies
import Derived.Deep.RegionLaw
import Derived.Laws.Rows
import Derived.RangeFuncOwn
import Derived.Laws.MakeOwn
import Derived.Lib.AppendStr
import Derived.Laws.BytesArg
import Derived.ProofKit
import Derived.Test.YtiledamgmppcmaaGreatDoorZE4
set_option linter.unusedVariables false
set_option linter.unusedSimpArgs false
set_option linter.unusedSectionVars false
set_option linter.all false
namespace Go.Proofs.YtiledamgmppcmaaGreatDoor
open Go.RowKit
section
variable {N : Nat} {ops : Array Oper} {rest : List Oper} {o : Oper} {F : Nat -> PV} {S S' : PS} {q : WRes -> Prop} {C : Prop} {r : PV} {Q : Exit -> (Nat -> PV) -> PS -> Prop}
variable {ch : Nat -> Bool} {U Ut : List Nat} {k : Nat} {bm : Bool} {D : List Nat}
variable {c : Operand} {al : Array Operand} {ats : Array TypeId} {f : Nat} {caps args : List PV}
theorem wcba {id : Nat} {c0 c1 : List PV} (hD : An f args ⟨[c0], []⟩ (.ret r) ⟨[c1], []⟩) (hg : Am ops F o = some true) (hcc : ch k = true) (ho : o.op = .call { callee := .value c, args := al, argTypes := ats }) (hc : evP F c = .fn f caps) (hbox : S.boxes[id]? = some c0) (hl0 : PV.ltL 0 0 c0 = true) (hl1 : PV.ltL 0 0 c1 = true) (hlr : r.lt 0 0 = true)
    (hlt : PV.ltL 1 0 args = true) (ha : F6 S (al.toList.map (evP F) ++ caps) (PV.renL (fbN [id]) (ftN [] S.toks.length) args)) (hS : S.setBox id c1 = S') (hA : Agree U Ut S S') (kk : WA Tryz.prog N ops ch U Ut (k + 1) rest (Ch N o.dst r F) S' false D q) : WA Tryz.prog N ops ch U Ut k (o :: rest) F S false D q := by
  subst hS; exact Qw hg hcc (K3 hD ho hc hbox hl0 hl1 hlr hlt ha) hA kk
end
section
variable {N : Nat} {ops : Array Oper} {rest : List Oper} {o : Oper} {F : Nat -> PV} {S S' S'' : PS} {q : WRes -> Prop} {C : Prop} {r r' : PV} {Q : Exit -> (Nat -> PV) -> PS -> Prop} {ch : Nat -> Bool} {U Ut : List Nat} {k : Nat} {bm : Bool} {D : List Nat}
theorem q10 (kk : WA Tryz.prog N ops ch U Ut (k + 1) rest (Ch N o.dst r F) S bm D q) (hg : Am ops F o = some true := by exact rfl) (hc : ch k = false := by exact rfl) (h : ∀ S', Agree U Ut S S' -> Le tyi Bq F S' o.op = some (C, r, S') := by exact fun _ _ => rfl) (hC : C := by first | exact True.intro | (simp only [IntKind.lo, IntKind.hi]; omega) | omega | decide) : WA Tryz.prog N ops ch U Ut k (o :: rest) F S bm D q := waf hg hc h hC kk
theorem q12 (kk : WA Tryz.prog N ops ch U Ut (k + 1) rest (Ch N o.dst r' F) S bm D q) (hg : Am ops F o = some true := by exact rfl) (hc : ch k = false := by exact rfl) (h : ∀ S', Agree U Ut S S' -> Hz tyi Bq F S' o.op = some (C, r, S') := by exact fun _ _ => rfl) (hr : r = r' := by first | (apply Ck rfl; repeat (first | exact Bp rfl | apply Gx rfl | apply Gy rfl | apply Gz rfl)) | exact Lk rfl | (dsimp only [List.length_cons, List.length_nil, List.length_append, Nat.reduceAdd]; rfl) | rfl) (hC : C := by first | exact True.intro | (simp only [IntKind.lo, IntKind.hi]; omega) | omega | decide) : WA Tryz.prog N ops ch U Ut k (o :: rest) F S bm D q := wafB hg hc h hr hC kk
end
theorem rs2 {G X Y : Prop} (h1 : X) (h2 : Y) (t : Hx X -> Hx Y -> G := by (intro h1 h2; first | exact q17 h1.out h2.out | exact q18 h1.out h2.out | exact q16 h1.out h2.out | fail)) : G := t ⟨h1⟩ ⟨h2⟩
end Go.Proofs.YtiledamgmppcmaaGreatDoor
namespace Go.Proofs.YtiledamgmppcmaaGreatDoor
open Go.RowKit
noncomputable section
end
end Go.Proofs.YtiledamgmppcmaaGreatDoor
namespace Go.Proofs.YtiledamgmppcmaaGreatDoor
open Go.RowKit
noncomputable section
section
variable (P : Program) (orc : Nat -> List PV -> PS -> Option (POut × PS)) (rows : Nat -> Bool)
end
end
end Go.Proofs.YtiledamgmppcmaaGreatDoor
namespace Go.Proofs.YtiledamgmppcmaaGreatDoor
open Go.RowKit
theorem Mc {j : Nat} (h : j < 10) : (⟨#[48, 49, 50, 51, 52, 53, 54, 55, 56, 57]⟩ : ByteArray).extract (j : Int).toNat ((j : Int) + 1).toNat = ⟨#[UInt8.ofNat (48 + j)]⟩ := by
  have : j = 0 \/ j = 1 \/ j = 2 \/ j = 3 \/ j = 4 \/ j = 5 \/ j = 6 \/ j = 7 \/ j = 8 \/ j = 9 := by omega
  rcases this with rfl | rfl | rfl | rfl | rfl | rfl | rfl | rfl | rfl | rfl <;> rfl
theorem O8 {j : Nat} (h : j < 10) : Mr j = ⟨#[UInt8.ofNat (48 + j)]⟩ := by
  unfold Mr; rw [I2, Lib.decDigits, dif_pos h]
theorem Uu {n : Nat} (h : ¬ n < 10) : Mr n = Mr (n / 10 : Nat) ++ ⟨#[UInt8.ofNat (48 + n % 10)]⟩ := by
  unfold Mr; rw [I2, I2, Lib.decDigits, dif_neg h]
  apply ByteArray.ext; apply Array.ext'; simp
set_option maxHeartbeats 400000 in
theorem Ps : ∀ (k n : Nat), n < k -> n <= 9223372036854775807 -> An 60 [Ai n] ⟨[], []⟩ (.ret (By (Mr n))) ⟨[], []⟩ := by
  intro k
  induction k with
  | zero => intro n h; omega
  | succ k ih =>
    intro n hk hn
    refine Af Tryz.func60 rfl rfl (Nat.le_of_ble_eq_true rfl) rfl (Nat.le_refl _) ?_
    repeat' (first | refine rl0 ?_ | refine rs0 (fun h => ?_) (fun h => ?_) | fail)
    . have h' : n < 10 := by have := h; simp at this; omega
      refine wst rfl rfl (by simp only [IntKind.lo, IntKind.hi]; omega) ?_
      refine wst rfl rfl ⟨by omega, by omega, by show (n : Int) + 1 <= 10; omega⟩ ?_
      repeat' (first | refine rl0 ?_ | refine rs0 (fun h => ?_) (fun h => ?_) | fail)
      rw [Mc h', O8 h']
    . have h' : ¬ n < 10 := by have := h; simp at this; omega
      have hd := ih (n / 10) (by omega) (by omega)
      refine wcn (args := [Ai (n / 10 : Nat)]) hd rfl rfl rfl rfl rfl (by repeat (first | exact Ad | refine Aa (Ab _) ?_)) ?_
      repeat' (first | refine rl0 ?_ | refine rs0 (fun h => ?_) (fun h => ?_) | fail)
      refine wan rfl rfl ⟨by omega, by omega, by show (n : Int) % 10 + 1 <= 10; omega⟩ ?_
      have hm : n % 10 < 10 := Nat.mod_lt _ (by omega)
      have hcut : (⟨#[48, 49, 50, 51, 52, 53, 54, 55, 56, 57]⟩ : ByteArray).extract ((n : Int) % 10).toNat ((n : Int) % 10 + 1).toNat = ⟨#[UInt8.ofNat (48 + n % 10)]⟩ := Mc hm
      refine wan rfl rfl (by rw [hcut]; have := Uv (n := n / 10) (by omega); show (Mr (n / 10 : Nat)).size + 1 <= _; omega) ?_
      repeat' (first | refine rl0 ?_ | refine rs0 (fun h => ?_) (fun h => ?_) | fail)
      rw [hcut, Uu h']
theorem Pr (n : Nat) (hn : n <= 9223372036854775807) : An 42 [Ai n] ⟨[], []⟩ (.ret (By (Mr n))) ⟨[], []⟩ := by
  refine Af Tryz.func42 rfl rfl (Nat.le_of_ble_eq_true rfl) rfl (Nat.le_refl _) ?_
  repeat' (first | refine rl0 ?_ | refine rs0 (fun h => ?_) (fun h => ?_) | fail)
  refine D3 (Ps (n + 1) n (by omega) hn) rfl rfl rfl rfl rfl (by repeat (first | exact Ad | refine Aa (Ab _) ?_)) ?_
  repeat' (first | refine rl0 ?_ | refine rs0 (fun h => ?_) (fun h => ?_) | fail)
  rfl
end Go.Proofs.YtiledamgmppcmaaGreatDoor
namespace Go.Proofs.YtiledamgmppcmaaGreatDoor
open Go.RowKit
theorem eval_bad (x : Ex) (vars : List ByteArray) (vals : List Int) (hs : x.small) (hc : Bg x ≠ 0) : An 33 [exP x, D8 vars, Fj vals] ⟨[], []⟩ (.ret (.tup [vlP 0 ⟨#[]⟩ false, Ai (Bg x)])) ⟨[], []⟩ := by
  have hchk := F7 x hs
  refine ⟨enters_of Tryz.func33 rfl rfl, Dm H5 Tryz.func33 rfl (Nat.le_of_ble_eq_true rfl) rfl (Nat.le_refl _) ?_⟩
  refine Av (Bv ?_)
  repeat' (first | refine rl0 ?_ | refine rs0 (fun h => ?_) (fun h => ?_) | fail)
  refine Av (Bv ?_)
  repeat' (first | refine rl0 ?_ | refine rs0 (fun h => ?_) (fun h => ?_) | fail)
  refine D3 hchk rfl rfl rfl rfl rfl (by repeat (first | exact Ad | refine Aa (Ab _) ?_)) ?_
  repeat' (first | refine rl0 ?_ | refine rs0 (fun h => ?_) (fun h => ?_) | fail)
  . exact ⟨none, .inl ⟨rfl, .inr rfl⟩, _, rfl, rfl, rfl, .inr rfl, _, B6 rfl, rfl, rfl⟩
  . exfalso; simp at h; omega
end Go.Proofs.YtiledamgmppcmaaGreatDoor
namespace Go.Proofs.YtiledamgmppcmaaGreatDoor
open Go.RowKit
structure PRes where
  x : Ex
  at' : Nat
  bad : Bool
def PRes.no (a : Nat) : PRes := ⟨.nil, a, true⟩
def PRes.yes (x : Ex) (a : Nat) : PRes := ⟨x, a, false⟩
def PRes.go (p : PRes) (f : Ex -> Nat -> PRes) : PRes := if p.bad = true then .no p.at' else f p.x p.at'
def Ba (l : List TkZ) (a : Nat) (s : ByteArray) : Bool := match l[a]? with
  | some t => decide (t.2.1 = s) && (decide (t.1 = 2) || decide (t.1 = 4))
  | none => false
def Ct (l : List TkZ) (a : Nat) (s : ByteArray) (f : Nat -> PRes) : PRes := if Ba l a s = true then f (a + 1) else .no a
def Jk : Nat -> List (Int × ByteArray)
  | 1 => [(18, ⟨#[111, 114]⟩)]
  | 2 => [(17, ⟨#[97, 110, 100]⟩)]
  | 4 => [(11, ⟨#[61]⟩), (12, ⟨#[33, 61]⟩), (13, ⟨#[60]⟩), (14, ⟨#[60, 61]⟩), (15, ⟨#[62]⟩), (16, ⟨#[62, 61]⟩)]
  | 5 => [(7, ⟨#[43]⟩), (8, ⟨#[45]⟩)]
  | 6 => [(9, ⟨#[42]⟩), (10, ⟨#[47]⟩)]
  | _ => []
def Bd (l : List TkZ) (a m : Nat) : Option Int := ((Jk m).find? fun p => Ba l a p.2).map (·.1)
def Ao (m : Nat) : Nat := if m = 2 then 3 else m + 1
def kIf : ByteArray := ⟨#[105, 102]⟩
def Kq : ByteArray := ⟨#[116, 104, 101, 110]⟩
def Kp : ByteArray := ⟨#[101, 108, 115, 101]⟩
def Ab6 : ByteArray := ⟨#[110, 111, 116]⟩
def Ms : ByteArray := ⟨#[45]⟩
def Ik : ByteArray := ⟨#[40]⟩
def Hl : ByteArray := ⟨#[41]⟩
def Lv (s : ByteArray) : Int := (Lib.atoi s.data.toList).getD 0
def Gf (t : TkZ) (a : Nat) : PRes := if t.1 = 1 then .yes (.mk 2 0 t.2.1 []) (a + 1) else if t.1 = 3 then .yes (.mk 1 (Lv t.2.1) ⟨#[]⟩ []) (a + 1) else .no a
def Jm (l : List TkZ) (a : Nat) : PRes := match l[a]? with
  | none => .no a
  | some t => Gf t a
mutual
def pE (l : List TkZ) : Nat -> Nat -> Nat -> PRes
  | 0, _, a => .no a
  | n + 1, 0, a => if Ba l a kIf = true then
      (pE l n 0 (a + 1)).go fun x b => Ct l b Kq fun b => (pE l n 0 b).go fun y c => Ct l c Kp fun c => (pE l n 0 c).go fun z d => .yes (nd 19 [x, y, z]) d
      else pE l n 1 a
  | n + 1, 3, a => if Ba l a Ab6 = true then (pE l n 3 (a + 1)).go fun x b => .yes (nd 6 [x]) b
      else (pE l n 5 a).go fun x b => match Bd l b 4 with
        | some op => (pE l n 5 (b + 1)).go fun y c => .yes (nd op [x, y]) c
        | none => .yes x b
  | n + 1, 7, a => if Ba l a Ms = true then (pE l n 7 (a + 1)).go fun x b => .yes (nd 5 [x]) b
      else if Ba l a Oc = true then .yes (nd 3 []) (a + 1)
      else if Ba l a Jg = true then .yes (nd 4 []) (a + 1)
      else if Ba l a Ik = true then (pE l n 0 (a + 1)).go fun x b => Ct l b Hl fun c => .yes x c
      else Jm l a
  | n + 1, m, a => (pE l n (Ao m) a).go fun x b => pR l n m x b
def pR (l : List TkZ) : Nat -> Nat -> Ex -> Nat -> PRes
  | 0, _, _, a => .no a
  | n + 1, m, x, a => match Bd l a m with
    | none => .yes x a
    | some op => (pE l n (Ao m) (a + 1)).go fun y b => pR l n m (nd op [x, y]) b
end
def A5 : Nat -> Nat
  | 0 => 8
  | 1 => 7
  | 2 => 6
  | 3 => 5
  | 5 => 4
  | 6 => 3
  | _ => 2
def D1 (l : List TkZ) (a : Nat) : PRes := pE l (8 * (l.length - a) + 9) 0 a
theorem Bs {l : List TkZ} {a : Nat} {s : ByteArray} (h : Ba l a s = true) : a < l.length := by
  unfold Ba at h
  split at h
  . rename_i t ht; exact (List.getElem?_eq_some_iff.1 ht).1
  . cases h
theorem B0 {l : List TkZ} {a m : Nat} {op : Int} (h : Bd l a m = some op) : a < l.length := by
  unfold Bd at h
  obtain ⟨p, hp, _⟩ := Option.map_eq_some_iff.1 h
  have h2 := List.find?_some (p := fun q : Int × ByteArray => Ba l a q.2) hp
  exact Bs h2
def PRes.fits (p : PRes) (l : List TkZ) (a : Nat) : Prop := a <= p.at' /\ (a <= l.length -> p.at' <= l.length)
theorem Dh {l : List TkZ} {a : Nat} : (PRes.no a).fits l a := ⟨Nat.le_refl _, id⟩
theorem Bc {l : List TkZ} {a : Nat} {x : Ex} : (PRes.yes x a).fits l a := ⟨Nat.le_refl _, id⟩
theorem PRes.fits.up {p : PRes} {l : List TkZ} {a b : Nat} (h : p.fits l b) (hab : a <= b) (hb : a <= l.length -> b <= l.length) : p.fits l a := ⟨Nat.le_trans hab h.1, fun ha => h.2 (hb ha)⟩
theorem PRes.fits.one {p : PRes} {l : List TkZ} {a : Nat} {s : ByteArray} (h : p.fits l (a + 1)) (hs : Ba l a s = true) : p.fits l a := h.up (Nat.le_succ _) fun _ => Bs hs
theorem B1 {p : PRes} {f : Ex -> Nat -> PRes} {l : List TkZ} {a : Nat} (h : p.fits l a) (hf : ∀ x b, (f x b).fits l b) : (p.go f).fits l a := by
  unfold PRes.go
  split
  . exact PRes.fits.up Dh h.1 h.2
  . exact (hf p.x p.at').up h.1 h.2
theorem D6 {f : Nat -> PRes} {l : List TkZ} {a : Nat} {s : ByteArray} (hf : ∀ b, (f b).fits l b) : (Ct l a s f).fits l a := by
  unfold Ct
  split
  . rename_i h; exact (hf _).one h
  . exact Dh
theorem Km {l : List TkZ} {a : Nat} {t : TkZ} (h : l[a]? = some t) : (Gf t a).fits l a := by
  have := (List.getElem?_eq_some_iff.1 h).1
  unfold Gf
  split
  . exact Bc.up (Nat.le_succ _) fun _ => this
  . split
    . exact Bc.up (Nat.le_succ _) fun _ => this
    . exact Dh
theorem Dz (l : List TkZ) (n m a : Nat) (h0 : m ≠ 0) (h3 : m ≠ 3) (h7 : m ≠ 7) : pE l (n + 1) m a = (pE l n (Ao m) a).go fun x b => pR l n m x b := by
  rw [pE] <;> simp_all
theorem Hw (l : List TkZ) : ∀ n, (∀ m a, (pE l n m a).fits l a) /\ ∀ m x a, (pR l n m x a).fits l a
  | 0 => ⟨fun m a => by rw [pE]; exact Dh, fun m x a => by rw [pR]; exact Dh⟩
  | n + 1 => by
    obtain ⟨h1, h2⟩ := Hw l n
    refine ⟨fun m a => ?_, fun m x a => ?_⟩
    . by_cases e0 : m = 0
      . subst e0
        rw [pE]
        split
        . rename_i h
          exact (B1 (h1 _ _) fun x b => D6 fun b => B1 (h1 _ _) fun y c => D6 fun c => B1 (h1 _ _) fun z d => Bc).one h
        . exact h1 _ _
      by_cases e3 : m = 3
      . subst e3
        rw [pE]
        split
        . rename_i h
          exact (B1 (h1 _ _) fun x b => Bc).one h
        . refine B1 (h1 _ _) fun x b => ?_
          split
          . rename_i op ho
            exact (B1 (h1 _ _) fun y c => Bc).up (Nat.le_succ _) fun _ => B0 ho
          . exact Bc
      by_cases e7 : m = 7
      . subst e7
        rw [pE]
        split
        . rename_i h
          exact (B1 (h1 _ _) fun x b => Bc).one h
        split
        . rename_i h; exact PRes.fits.one Bc h
        split
        . rename_i h; exact PRes.fits.one Bc h
        split
        . rename_i h
          exact (B1 (h1 _ _) fun x b => D6 fun c => Bc).one h
        unfold Jm
        split
        . exact Dh
        . rename_i t ht; exact Km ht
      rw [Dz l n m a e0 e3 e7]
      exact B1 (h1 _ _) fun x b => h2 _ _ _
    . rw [pR]
      split
      . exact Bc
      . rename_i op ho
        exact (B1 (h1 _ _) fun y c => h2 _ _ _).up (Nat.le_succ _) fun _ => B0 ho
theorem Gc (l : List TkZ) (n m a : Nat) : a <= (pE l n m a).at' := ((Hw l n).1 m a).1
theorem Dg (l : List TkZ) (n m a : Nat) (h : a <= l.length) : (pE l n m a).at' <= l.length := ((Hw l n).1 m a).2 h
end Go.Proofs.YtiledamgmppcmaaGreatDoor
namespace Go.Proofs.YtiledamgmppcmaaGreatDoor
open Go.RowKit
theorem D0 (op : Int) (l : List Ex) : An 114 [Ai op, .d (.sl 4 (Eb l))] ⟨[], []⟩ (.ret (exP (.mk op 0 ⟨#[]⟩ l))) ⟨[], []⟩ := by
  refine Af Tryz.func114 rfl rfl (Nat.le_of_ble_eq_true rfl) rfl (Nat.le_refl _) ?_
  repeat' (first | refine rl0 ?_ | refine rs0 (fun h => ?_) (fun h => ?_) | fail)
  rfl
end Go.Proofs.YtiledamgmppcmaaGreatDoor
namespace Go.Proofs.YtiledamgmppcmaaGreatDoor
open Go.RowKit
@[reducible] def pxS (l : List TkZ) (a : Nat) : PS := ⟨[[.d (.sl 3 (l.map tkR)), Ai a]], []⟩
theorem G9 {l : List TkZ} {a : Nat} {s : ByteArray} {t : TkZ} (h : l[a]? = some t) : Ba l a s = (decide (t.2.1 = s) && (decide (t.1 = 2) || decide (t.1 = 4))) := by
  unfold Ba; rw [h]
theorem B4 {l : List TkZ} {a : Nat} {t : TkZ} (h : l[a]? = some t) : (l.map tkR)[((a : Nat) : Int).toNat]? = some (tkR t) := by
  rw [Int.toNat_natCast, List.getElem?_map, h]; rfl
theorem Aj {l : List TkZ} {s : ByteArray} {a : Nat} (hl : l.length <= 9223372036854775806) (h : Ba l a s = false) : An 111 [.ptr 0 0, By s] (pxS l a) (.ret (A7 false)) (pxS l a) := by
  have hn := h
  refine Af Tryz.func111 rfl rfl (Nat.le_of_ble_eq_true rfl) rfl (Nat.le_refl _) ?_
  repeat' (first | refine rl0 ?_ | refine rs0 (fun h => ?_) (fun h => ?_) | fail)
  . rfl
  . have hlt : a < l.length := by simp at h; omega
    obtain ⟨t, ht⟩ : ∃ t, l[a]? = some t := ⟨_, List.getElem?_eq_getElem hlt⟩
    rw [G9 ht] at hn
    refine Ib _ rfl rfl rfl rfl rfl (B4 ht) (by omega) ?_
    repeat' (first | refine rl0 ?_ | refine rs0 (fun h => ?_) (fun h => ?_) | fail)
    . rfl
    refine Ib _ rfl rfl rfl rfl rfl (B4 ht) (by omega) ?_
    repeat' (first | refine rl0 ?_ | refine rs0 (fun h => ?_) (fun h => ?_) | fail)
    . refine Ib _ rfl rfl rfl rfl rfl (B4 ht) (by omega) ?_
      repeat' (first | refine rl0 ?_ | refine rs0 (fun h => ?_) (fun h => ?_) | fail)
      . rfl
      . exfalso; simp_all
    . exfalso; simp_all
theorem As {l : List TkZ} {s : ByteArray} {a : Nat} (hl : l.length <= 9223372036854775806) (h : Ba l a s = true) : An 111 [.ptr 0 0, By s] (pxS l a) (.ret (A7 true)) (pxS l (a + 1)) := by
  have hn := h
  have hlt := Bs h
  obtain ⟨t, ht⟩ : ∃ t, l[a]? = some t := ⟨_, List.getElem?_eq_getElem hlt⟩
  rw [G9 ht] at hn
  refine Af Tryz.func111 rfl rfl (Nat.le_of_ble_eq_true rfl) rfl (Nat.le_refl _) ?_
  repeat' (first | refine rl0 ?_ | refine rs0 (fun h => ?_) (fun h => ?_) | fail)
  . exfalso; simp at h; omega
  refine Ib _ rfl rfl rfl rfl rfl (B4 ht) (by omega) ?_
  repeat' (first | refine rl0 ?_ | refine rs0 (fun h => ?_) (fun h => ?_) | fail)
  . exfalso; simp_all
  refine Ib _ rfl rfl rfl rfl rfl (B4 ht) (by omega) ?_
  repeat' (first | refine rl0 ?_ | refine rs0 (fun h => ?_) (fun h => ?_) | fail)
  . refine Ib _ rfl rfl rfl rfl rfl (B4 ht) (by omega) ?_
    repeat' (first | refine rl0 ?_ | refine rs0 (fun h => ?_) (fun h => ?_) | fail)
    . exfalso; simp_all
    . rfl
  . rfl
theorem C1 {l : List TkZ} {s : ByteArray} {a : Nat} (hl : l.length <= 9223372036854775806) (h : Ba l a s = true) : An 113 [.ptr 0 0, By s] (pxS l a) (.ret (.tup [])) (pxS l (a + 1)) := by
  refine Af Tryz.func113 rfl rfl (Nat.le_of_ble_eq_true rfl) rfl (Nat.le_refl _) ?_
  repeat' (first | refine rl0 ?_ | refine rs0 (fun h => ?_) (fun h => ?_) | fail)
  refine wcb (id := 0) (As hl h) rfl rfl rfl rfl rfl rfl rfl rfl (by repeat (first | exact Ad | refine Aa (Ab _) ?_)) rfl ?_
  repeat' (first | refine rl0 ?_ | refine rs0 (fun h => ?_) (fun h => ?_) | fail)
  rfl
theorem Fg {l : List TkZ} {s : ByteArray} {a : Nat} (hl : l.length <= 9223372036854775806) (h : Ba l a s = false) : An 113 [.ptr 0 0, By s] (pxS l a) (.panic Fv) (pxS l a) := by
  refine ⟨enters_of Tryz.func113 rfl rfl, Sv Tryz.func113 rfl (Nat.le_of_ble_eq_true rfl) ?_⟩
  repeat' (first | refine rl0 ?_ | refine rs0 (fun h => ?_) (fun h => ?_) | fail)
  refine wcb (id := 0) (Aj hl h) rfl rfl rfl rfl rfl rfl rfl rfl (by repeat (first | exact Ad | refine Aa (Ab _) ?_)) rfl ?_
  repeat' (first | refine rl0 ?_ | refine rs0 (fun h => ?_) (fun h => ?_) | fail)
  refine Gu rfl (G0 rfl rfl) ?_
  exact ⟨rfl, rfl⟩
def opN (i : Nat) : Int × Int × Int × Int × ByteArray := Ok.getD i (0, 0, 0, 0, ⟨#[]⟩)
theorem Ig {i : Nat} (h : i < 20) : (Adr.drop (((i : Nat) : Int).toNat * 5)).take 5 = opP (opN i) /\ ((i : Nat) : Int).toNat * 5 + 5 <= Adr.length := by
  cases i with
  | zero => exact ⟨rfl, Nat.le_of_ble_eq_true rfl⟩
  | succ i => exact S8 (op := ((i + 1 : Nat) : Int)) (by omega) (by omega)
def Hb (l : List TkZ) (a m i : Nat) : Bool := decide ((opN i).2.2.2.1 = m) && (decide ((opN i).1 = 2) && Ba l a (opN i).2.2.2.2)
def lvM (m : Nat) : Prop := m = 1 \/ m = 2 \/ m = 4 \/ m = 5 \/ m = 6
theorem E8 (l : List TkZ) (a : Nat) {m : Nat} (hm : lvM m) : Bd l a m = ((List.range 20).find? (Hb l a m)).map Int.ofNat := by
  have e : List.range 20 = [0, 1, 2, 3, 4, 5, 6, 7, 8, 9, 10, 11, 12, 13, 14, 15, 16, 17, 18, 19] := by decide
  rw [e]
  rcases hm with rfl | rfl | rfl | rfl | rfl <;> simp [Bd, Jk, List.find?, Hb, opN, Ok]
  . cases Ba l a ⟨#[111, 114]⟩ <;> rfl
  . cases Ba l a ⟨#[97, 110, 100]⟩ <;> rfl
  . cases Ba l a ⟨#[61]⟩ <;> cases Ba l a ⟨#[33, 61]⟩ <;> cases Ba l a ⟨#[60]⟩ <;> cases Ba l a ⟨#[60, 61]⟩ <;> cases Ba l a ⟨#[62]⟩ <;> cases Ba l a ⟨#[62, 61]⟩ <;> rfl
  . cases Ba l a ⟨#[43]⟩ <;> cases Ba l a ⟨#[45]⟩ <;> rfl
  . cases Ba l a ⟨#[42]⟩ <;> cases Ba l a ⟨#[47]⟩ <;> rfl
end Go.Proofs.YtiledamgmppcmaaGreatDoor
namespace Go.Proofs.YtiledamgmppcmaaGreatDoor
open Go.RowKit
def Fd : List Nat -> Nat -> List Oper -> Bool
  | _, _, [] => true
  | D, k, o :: r => D.any (aft o) && Fd (k :: D) (k + 1) r
section
variable {P : Program} {N : Nat} {ops : Array Oper} {rest : List Oper} {o : Oper} {F : Nat -> PV} {S Sx : PS} {q : WRes -> Prop} {ch : Nat -> Bool} {U Ut : List Nat} {k : Nat} {D : List Nat} {c : Value}
theorem Gn : ∀ (rest : List Oper) (k : Nat) (F : Nat -> PV) (D : List Nat), Fd D k rest = true -> WalkA P N ops ch U Ut k rest F S true D (.panic c Sx)
  | [], _, _, _, _ => .nilX
  | o :: r, k, F, D, h => by
    simp only [Fd, Bool.and_eq_true] at h
    exact .dead h.1 (Gn r (k + 1) _ _ h.2)
theorem Qv (ho : OpX P o F S c Sx) (h : q (.panic c Sx)) (hg : Am ops F o = some true := by exact rfl) (hc : ch k = true := by exact rfl) (hd : Fd (k :: D) (k + 1) rest = true := by kernel_rfl) : WA P N ops ch U Ut k (o :: rest) F S false D q :=
  ⟨⟨_, .boom hg hc ho (Gn rest (k + 1) _ _ hd), h⟩⟩
theorem Hv {U : List Nat} {id : Nat} (h : U.any (Nat.beq id) = true) : id ∈ U := by
  obtain ⟨x, hx, h2⟩ := List.any_eq_true.1 h
  rw [Nat.eq_of_beq_eq_true h2]; exact hx
theorem Ah {S S' : PS} {a : Nat} {U Ut : List Nat} (h : S'.boxes[a]? = S.boxes[a]?) (t : Agree U Ut S S') : Agree (a :: U) Ut S S' :=
  ⟨fun id hid => (List.mem_cons.1 hid).elim (fun e => e ▸ h) (t.boxes id), t.toks⟩
theorem Kl {f : Nat} {fn : Func} {c : Code} {args : List PV} {S S' : PS} {x : Value} (hf : P.funcs[f]? = some fn) (hb : fn.body = some c) (hn : args.length <= fn.ntmps)
    (h : PW P fn.ntmps c (fun e _ S1 => e = .panic [{ v := x, recovered := false }] /\ S1.cut S.boxes.length S.toks.length = S' /\ (S1.boxes.take S.boxes.length).all (fun c => PV.ltL S.boxes.length S.toks.length c) = true) (Lr args) S) : EvC P f args S (.panic x) S' := by
  intro K w vs hI hA
  have hl := hA.length
  refine calls_of_wp hf hb (wp_mono (h.run0 K w { tmps := vs.toArray ++ Array.replicate (fn.ntmps - vs.toArray.size) undef, defers := [] } hI ⟨by simp; omega, fun t => ?_⟩) ?_)
  . have := G3 args vs (fn.ntmps - vs.toArray.size) t hA
    rw [Array.getD_eq_getD_getElem?]
    rw [List.getD_eq_getElem?_getD] at this
    rw [<- Array.getElem?_toList]
    simpa using this
  . intro e a' w' hq
    obtain ⟨K', F', S1, h1, h2, h3, h4, rfl, rfl, hall⟩ := hq
    exact ⟨h4, _, Gb hI h1 (Nat.le_refl _) (Nat.le_refl _), h2.cut hall, rfl⟩
end
theorem A1 {f : Nat} {fn : Func} {c : Code} {args : List PV} {S S' : PS} {x : Value} (hf : Tryz.prog.funcs[f]? = some fn) (hname : (fn.name == "runtime.NumGoroutine") = false) (hb : fn.body = some c) (hn : args.length <= fn.ntmps)
    (h : PW Tryz.prog fn.ntmps c (fun e _ S1 => e = .panic [{ v := x, recovered := false }] /\ S1.cut S.boxes.length S.toks.length = S' /\ (S1.boxes.take S.boxes.length).all (fun c => PV.ltL S.boxes.length S.toks.length c) = true) (Lr args) S) : An f args S (.panic x) S' :=
  ⟨enters_of hf hname hb, Kl hf hb hn h⟩
section
variable {N : Nat} {ops : Array Oper} {rest : List Oper} {o : Oper} {F : Nat -> PV} {S S' S'' : PS} {q : WRes -> Prop} {C : Prop} {r r' : PV} {ch : Nat -> Bool} {U Ut : List Nat} {k : Nat} {bm : Bool} {D : List Nat}
theorem ql2 {t : TypeId} {x : Operand} {id off : Nat} {c : List PV} (kk : WA Tryz.prog N ops ch U Ut (k + 1) rest (Ch N o.dst r' F) S bm D q) (hg : Am ops F o = some true := by exact rfl) (hc : ch k = false := by exact rfl) (ho : o.op = .load t x := by exact rfl) (hk : (Bq t && (tyi t).isRow) = true := by exact rfl) (hx : evP F x = .ptr id off := by exact rfl) (hU : U.any (Nat.beq id) = true := by exact rfl) (hb : S.boxes[id]? = some c := by exact rfl) (hle : Nat.ble (off + (tyi t).size) c.length = true := by exact rfl) (hr : PV.agg ((c.drop off).take (tyi t).size) = r' := by first | (apply Ck rfl; repeat (first | exact Bp rfl | apply Gx rfl | apply Gy rfl | apply Gz rfl)) | exact Lk rfl | (dsimp only [List.length_cons, List.length_nil, List.length_append, Nat.reduceAdd]; rfl) | rfl) : WA Tryz.prog N ops ch U Ut k (o :: rest) F S bm D q := by
  subst hr
  simp only [Bool.and_eq_true] at hk
  exact Sm hg hc (fun S' ha => Iu ho (Gl t hk.1) hk.2 hx (by rw [ha.boxes id (Hv hU)]; exact hb) hle) kk
theorem Ajg (kk : WA Tryz.prog N ops ch U Ut (k + 1) rest (Ch N o.dst r' F) S'' false D q) (hg : Am ops F o = some true := by exact rfl) (hc : ch k = true := by exact rfl) (h : Hz tyi Bq F S o.op = some (C, r, S') := by exact rfl) (hr : r = r' := by first | (apply Ck rfl; repeat (first | exact Bp rfl | apply Gx rfl | apply Gy rfl | apply Gz rfl)) | exact Lk rfl | (dsimp only [List.length_cons, List.length_nil, List.length_append, Nat.reduceAdd]; rfl) | rfl) (hS : S' = S'' := by (apply Ob rfl; repeat (first | exact Bp rfl | apply Gx rfl | apply Gy rfl | apply Gz rfl | exact Je rfl | apply Gg rfl | exact Jf rfl | apply Gh rfl | exact Np))) (hC : C := by first | exact True.intro | (simp only [IntKind.lo, IntKind.hi]; omega) | omega | decide) (ha : Agree U Ut S S'' := by repeat (first | exact Ar | refine Ah rfl ?_)) : WA Tryz.prog N ops ch U Ut k (o :: rest) F S false D q := wac hg hc h hr hS hC ha kk
end
section
variable {N : Nat} {ops : Array Oper} {rest : List Oper} {o : Oper} {F : Nat -> PV} {S S' : PS} {q : WRes -> Prop} {r : PV} {ch : Nat -> Bool} {U Ut : List Nat} {k : Nat} {D : List Nat} {c : Operand} {al : Array Operand} {ats : Array TypeId} {f : Nat} {caps args : List PV} {c0 c1 : List PV} {x : Value}
theorem wb1 (id : Nat) (hD : An f args ⟨[c0], []⟩ (.ret r) ⟨[c1], []⟩) (kk : WK Tryz.prog N ops rest (Ch N o.dst r F) S' q) (hg : Am ops F o = some true := by exact rfl) (ho : o.op = .call { callee := .value c, args := al, argTypes := ats } := by exact rfl) (hc : evP F c = .fn f caps := by exact rfl) (hbox : S.boxes[id]? = some c0 := by exact rfl) (hl0 : PV.ltL 0 0 c0 = true := by exact rfl) (hl1 : PV.ltL 0 0 c1 = true := by exact rfl) (hlr : r.lt 0 0 = true := by exact rfl)
    (hlt : PV.ltL 1 0 args = true := by exact rfl) (ha : F6 S (al.toList.map (evP F) ++ caps) (PV.renL (fbN [id]) (ftN [] S.toks.length) args) := by repeat (first | exact Ad | refine Aa (Ab _) ?_)) (hS : S.setBox id c1 = S' := by exact rfl) : WK Tryz.prog N ops (o :: rest) F S q := wcb hD hg ho hc hbox hl0 hl1 hlr hlt ha hS kk
theorem Jy (id : Nat) (hD : An f args ⟨[c0], []⟩ (.panic x) ⟨[c1], []⟩) (kk : q (.panic x S')) (hg : Am ops F o = some true := by exact rfl) (ho : o.op = .call { callee := .value c, args := al, argTypes := ats } := by exact rfl) (hc : evP F c = .fn f caps := by exact rfl) (hbox : S.boxes[id]? = some c0 := by exact rfl) (hl0 : PV.ltL 0 0 c0 = true := by exact rfl) (hl1 : PV.ltL 0 0 c1 = true := by exact rfl)
    (hlt : PV.ltL 1 0 args = true := by exact rfl) (ha : F6 S (al.toList.map (evP F) ++ caps) (PV.renL (fbN [id]) (ftN [] S.toks.length) args) := by repeat (first | exact Ad | refine Aa (Ab _) ?_)) (hS : S.setBox id c1 = S' := by exact rfl) : WK Tryz.prog N ops (o :: rest) F S q := wcbx hD hg ho hc hbox hl0 hl1 hlt ha hS kk
theorem wb1a (id : Nat) (hD : An f args ⟨[c0], []⟩ (.ret r) ⟨[c1], []⟩) (kk : WA Tryz.prog N ops ch U Ut (k + 1) rest (Ch N o.dst r F) S' false D q) (hg : Am ops F o = some true := by exact rfl) (hcc : ch k = true := by exact rfl) (ho : o.op = .call { callee := .value c, args := al, argTypes := ats } := by exact rfl) (hc : evP F c = .fn f caps := by exact rfl) (hbox : S.boxes[id]? = some c0 := by exact rfl) (hl0 : PV.ltL 0 0 c0 = true := by exact rfl) (hl1 : PV.ltL 0 0 c1 = true := by exact rfl) (hlr : r.lt 0 0 = true := by exact rfl)
    (hlt : PV.ltL 1 0 args = true := by exact rfl) (ha : F6 S (al.toList.map (evP F) ++ caps) (PV.renL (fbN [id]) (ftN [] S.toks.length) args) := by repeat (first | exact Ad | refine Aa (Ab _) ?_)) (hS : S.setBox id c1 = S' := by exact rfl) (hA : Agree U Ut S S' := by repeat (first | exact Ar | refine Ah rfl ?_)) : WA Tryz.prog N ops ch U Ut k (o :: rest) F S false D q := wcba hD hg hcc ho hc hbox hl0 hl1 hlr hlt ha hS hA kk
theorem Ado (id : Nat) (hD : An f args ⟨[c0], []⟩ (.panic x) ⟨[c1], []⟩) (kk : q (.panic x S')) (hg : Am ops F o = some true := by exact rfl) (hcc : ch k = true := by exact rfl) (ho : o.op = .call { callee := .value c, args := al, argTypes := ats } := by exact rfl) (hc : evP F c = .fn f caps := by exact rfl) (hbox : S.boxes[id]? = some c0 := by exact rfl) (hl0 : PV.ltL 0 0 c0 = true := by exact rfl) (hl1 : PV.ltL 0 0 c1 = true := by exact rfl)
    (hlt : PV.ltL 1 0 args = true := by exact rfl) (ha : F6 S (al.toList.map (evP F) ++ caps) (PV.renL (fbN [id]) (ftN [] S.toks.length) args) := by repeat (first | exact Ad | refine Aa (Ab _) ?_)) (hS : S.setBox id c1 = S' := by exact rfl) (hd : Fd (k :: D) (k + 1) rest = true := by kernel_rfl) : WA Tryz.prog N ops ch U Ut k (o :: rest) F S false D q := by
  subst hS; exact Qv (K5 hD ho hc hbox hl0 hl1 hlt ha) kk hg hcc hd
theorem wp1 (hD : An f args ⟨[], []⟩ (.ret r) ⟨[], []⟩) (kk : WK Tryz.prog N ops rest (Ch N o.dst r F) S q) (hg : Am ops F o = some true := by exact rfl) (ho : o.op = .call { callee := .value c, args := al, argTypes := ats } := by exact rfl) (hc : evP F c = .fn f caps := by exact rfl)
    (hlt : PV.ltL 0 0 args = true := by exact rfl) (hlr : r.lt 0 0 = true := by exact rfl) (ha : F6 S (al.toList.map (evP F) ++ caps) args := by repeat (first | exact Ad | refine Aa (Ab _) ?_)) : WK Tryz.prog N ops (o :: rest) F S q := D3 hD hg ho hc hlt hlr ha kk
theorem wp1a (hD : An f args ⟨[], []⟩ (.ret r) ⟨[], []⟩) {bm : Bool} (kk : WA Tryz.prog N ops ch U Ut (k + 1) rest (Ch N o.dst r F) S bm D q) (hg : Am ops F o = some true := by exact rfl) (hp : (!ch k && Ta ops ch k) = true := by first | exact rfl | kernel_rfl) (ho : o.op = .call { callee := .value c, args := al, argTypes := ats } := by exact rfl) (hc : evP F c = .fn f caps := by exact rfl)
    (hlt : PV.ltL 0 0 args = true := by exact rfl) (hlr : r.lt 0 0 = true := by exact rfl) (ha : F6 S (al.toList.map (evP F) ++ caps) args := by repeat (first | exact Ad | refine Aa (Ab _) ?_)) : WA Tryz.prog N ops ch U Ut k (o :: rest) F S bm D q := wcpp hD hg hp ho hc hlt hlr ha kk
end
theorem rl6 {G X : Prop} (h : X) (t : Hx X -> G := by (intro h; (first | refine Gw ?_ | refine q6 ?_ | refine q10 ?_ | refine q11k ?_ | refine ql1 ?_ | refine ql2 ?_ | refine q12 ?_ | refine q13k ?_ | refine Ajg ?_ | fail); (repeat' (first | refine Gw ?_ | refine q6 ?_ | refine q10 ?_ | refine q11k ?_ | refine ql1 ?_ | refine ql2 ?_ | refine q12 ?_ | refine q13k ?_ | refine Ajg ?_ | fail)); exact h.out)) : G := t ⟨h⟩
end Go.Proofs.YtiledamgmppcmaaGreatDoor
namespace Go.Proofs.YtiledamgmppcmaaGreatDoor
open Go.RowKit
def AgK (ops : Array Oper) (k : Nat) (us : List (Nat × List Nat)) (S S' : PS) : Prop := ∀ e ∈ us, Ji ops k e.1 = true -> Agree e.2 [] S S'
theorem Fk {ops : Array Oper} {k : Nat} {S S' : PS} : AgK ops k [] S S' := fun _ h => by cases h
theorem Fc {ops : Array Oper} {k j : Nat} {ids : List Nat} {us : List (Nat × List Nat)} {S S' : PS} (h : Ji ops k j = false) (t : AgK ops k us S S') : AgK ops k ((j, ids) :: us) S S' := fun e he hu => by
  rcases List.mem_cons.1 he with rfl | he
  . rw [h] at hu; cases hu
  . exact t e he hu
theorem A3 {ops : Array Oper} {k j : Nat} {ids : List Nat} {us : List (Nat × List Nat)} {S S' : PS} (h : Agree ids [] S S') (t : AgK ops k us S S') : AgK ops k ((j, ids) :: us) S S' := fun e he hu => by
  rcases List.mem_cons.1 he with rfl | he
  . exact h
  . exact t e he hu
theorem Uj {ops : Array Oper} {k : Nat} {us : List (Nat × List Nat)} {S S' : PS} (h : AgK ops k us S S') (j : Nat) (hj : Ji ops k j = true) : Agree (Az us j) [] S S' := by
  refine ⟨fun id hid => ?_, by simp⟩
  obtain ⟨e, he, h1, h2⟩ := Pw hid
  exact (h e he (by rw [h1]; exact hj)).boxes id h2
section
variable {N : Nat} {ops : Array Oper} {rest : List Oper} {o : Oper} {F : Nat -> PV} {S S' S'' : PS} {q : WRes -> Prop} {C : Prop} {r r' : PV} {Q : Exit -> (Nat -> PV) -> PS -> Prop} {ch : Nat -> Bool} {us : List (Nat × List Nat)} {k : Nat} {bm : Bool} {D : List Nat}
theorem b0 {id : Nat} {l : List Oper} (ch : Nat -> Bool) (us : List (Nat × List Nat)) (h : Bw.WB Tryz.prog N l.toArray ch (Az us) (fun _ => []) 0 l F S false [] (Alf Q)) (hm : Tryz.prog.follows .mixedOrders = true := by exact rfl) (hB : W8 l.toArray ch = true := by kernel_rfl) : PW Tryz.prog N (.region id l.toArray true) Q F S := Bw.pw_regionB ch (Az us) (fun _ => []) hm hB h
theorem b1 (h : q (.done F S)) : Bw.WB Tryz.prog N ops ch (Az us) (fun _ => []) k [] F S false D q := ⟨⟨_, .nil, h⟩⟩
theorem Ke (ho : ∀ S', Agree (Az us k) [] S S' -> OpS Tryz.prog o F S' r S') (kk : Bw.WB Tryz.prog N ops ch (Az us) (fun _ => []) (k + 1) rest (Ch N o.dst r F) S bm D q) (hg : Am ops F o = some true := by exact rfl) (hc : ch k = false := by first | exact rfl | kernel_rfl) : Bw.WB Tryz.prog N ops ch (Az us) (fun _ => []) k (o :: rest) F S bm D q := let ⟨x, h1, h2⟩ := kk.ex; ⟨⟨x, .free hg hc ho h1, h2⟩⟩
theorem bpin (ho : OpS Tryz.prog o F S r S) (kk : Bw.WB Tryz.prog N ops ch (Az us) (fun _ => []) (k + 1) rest (Ch N o.dst r F) S bm D q) (hg : Am ops F o = some true := by exact rfl) (hp : (!ch k && Ta ops ch k) = true := by first | exact rfl | kernel_rfl) : Bw.WB Tryz.prog N ops ch (Az us) (fun _ => []) k (o :: rest) F S bm D q := by
  simp only [Bool.and_eq_true, Bool.not_eq_true'] at hp
  exact let ⟨x, h1, h2⟩ := kk.ex; ⟨⟨x, .pin hg hp.1 hp.2 ho h1, h2⟩⟩
theorem Lm (ho : OpS Tryz.prog o F S r S') (kk : Bw.WB Tryz.prog N ops ch (Az us) (fun _ => []) (k + 1) rest (Ch N o.dst r F) S' false D q) (hg : Am ops F o = some true := by exact rfl) (hc : ch k = true := by first | exact rfl | kernel_rfl) (ha : AgK ops k us S S' := by repeat (first | exact Fk | refine A3 (Ah rfl Ar) ?_ | refine A3 (Ah rfl (Ah rfl Ar)) ?_ | refine A3 (Ah rfl (Ah rfl (Ah rfl Ar))) ?_ | refine A3 (Ah rfl (Ah rfl (Ah rfl (Ah rfl Ar)))) ?_ | refine Fc (by kernel_rfl) ?_)) : Bw.WB Tryz.prog N ops ch (Az us) (fun _ => []) k (o :: rest) F S false D q := let ⟨x, h1, h2⟩ := kk.ex; ⟨⟨x, .chain hg hc ho (fun j hj => Uj ha j hj) h1, h2⟩⟩
theorem Uo {c : Value} {Sx : PS} : ∀ (rest : List Oper) (k : Nat) (F : Nat -> PV) (D : List Nat), Fd D k rest = true -> Bw.WalkA Tryz.prog N ops ch (Az us) (fun _ => []) k rest F S true D (.panic c Sx)
  | [], _, _, _, _ => .nilX
  | o :: r, k, F, D, h => by
    simp only [Fd, Bool.and_eq_true] at h
    exact .dead h.1 (Uo r (k + 1) _ _ h.2)
theorem Abm {c : Value} {Sx : PS} (ho : OpX Tryz.prog o F S c Sx) (h : q (.panic c Sx)) (hg : Am ops F o = some true := by exact rfl) (hc : ch k = true := by first | exact rfl | kernel_rfl) (hd : Fd (k :: D) (k + 1) rest = true := by kernel_rfl) : Bw.WB Tryz.prog N ops ch (Az us) (fun _ => []) k (o :: rest) F S false D q := ⟨⟨_, .boom hg hc ho (Uo rest (k + 1) _ _ hd), h⟩⟩
theorem b3 (kk : Bw.WB Tryz.prog N ops ch (Az us) (fun _ => []) (k + 1) rest (Ch N o.dst r F) S bm D q) (hg : Am ops F o = some true := by exact rfl) (hc : ch k = false := by first | exact rfl | kernel_rfl) (h : ∀ S', Agree (Az us k) [] S S' -> Le tyi Bq F S' o.op = some (C, r, S') := by exact fun _ _ => rfl) (hC : C := by first | exact True.intro | (simp only [IntKind.lo, IntKind.hi]; omega) | omega | decide) : Bw.WB Tryz.prog N ops ch (Az us) (fun _ => []) k (o :: rest) F S bm D q := Ke (fun S' ha => Jw Gl (h S' ha) hC) kk hg hc
theorem b5 {t : TypeId} {x : Operand} {id off : Nat} {c : List PV} {p : PV} (kk : Bw.WB Tryz.prog N ops ch (Az us) (fun _ => []) (k + 1) rest (Ch N o.dst p F) S bm D q) (hg : Am ops F o = some true := by exact rfl) (hc : ch k = false := by first | exact rfl | kernel_rfl) (ho : o.op = .load t x := by exact rfl) (hk : (Bq t && !(tyi t).isRow) = true := by exact rfl) (hx : evP F x = .ptr id off := by exact rfl) (hU : (Az us k).any (Nat.beq id) = true := by first | exact rfl | kernel_rfl) (hb : S.boxes[id]? = some c := by exact rfl) (hpp : c[off]? = some p := by exact rfl) : Bw.WB Tryz.prog N ops ch (Az us) (fun _ => []) k (o :: rest) F S bm D q := by
  simp only [Bool.and_eq_true, Bool.not_eq_true'] at hk
  exact Ke (fun S' ha => Qj ho (Gl t hk.1) hk.2 hx (by rw [ha.boxes id (Hv hU)]; exact hb) hpp) kk hg hc
theorem b6 {t : TypeId} {x : Operand} {id off : Nat} {c : List PV} (kk : Bw.WB Tryz.prog N ops ch (Az us) (fun _ => []) (k + 1) rest (Ch N o.dst r' F) S bm D q) (hg : Am ops F o = some true := by exact rfl) (hc : ch k = false := by first | exact rfl | kernel_rfl) (ho : o.op = .load t x := by exact rfl) (hk : (Bq t && (tyi t).isRow) = true := by exact rfl) (hx : evP F x = .ptr id off := by exact rfl) (hU : (Az us k).any (Nat.beq id) = true := by first | exact rfl | kernel_rfl) (hb : S.boxes[id]? = some c := by exact rfl) (hle : Nat.ble (off + (tyi t).size) c.length = true := by exact rfl) (hr : PV.agg ((c.drop off).take (tyi t).size) = r' := by first | (apply Ck rfl; repeat (first | exact Bp rfl | apply Gx rfl | apply Gy rfl | apply Gz rfl)) | exact Lk rfl | (dsimp only [List.length_cons, List.length_nil, List.length_append, Nat.reduceAdd]; rfl) | rfl) : Bw.WB Tryz.prog N ops ch (Az us) (fun _ => []) k (o :: rest) F S bm D q := by
  subst hr
  simp only [Bool.and_eq_true] at hk
  exact Ke (fun S' ha => Iu ho (Gl t hk.1) hk.2 hx (by rw [ha.boxes id (Hv hU)]; exact hb) hle) kk hg hc
theorem b7 (kk : Bw.WB Tryz.prog N ops ch (Az us) (fun _ => []) (k + 1) rest (Ch N o.dst r' F) S bm D q) (hg : Am ops F o = some true := by exact rfl) (hc : ch k = false := by first | exact rfl | kernel_rfl) (h : ∀ S', Agree (Az us k) [] S S' -> Hz tyi Bq F S' o.op = some (C, r, S') := by exact fun _ _ => rfl) (hr : r = r' := by first | (apply Ck rfl; repeat (first | exact Bp rfl | apply Gx rfl | apply Gy rfl | apply Gz rfl)) | exact Lk rfl | (dsimp only [List.length_cons, List.length_nil, List.length_append, Nat.reduceAdd]; rfl) | rfl) (hC : C := by first | exact True.intro | (simp only [IntKind.lo, IntKind.hi]; omega) | omega | decide) : Bw.WB Tryz.prog N ops ch (Az us) (fun _ => []) k (o :: rest) F S bm D q := by
  subst hr; exact Ke (fun S' ha => Ga Gl (h S' ha) hC) kk hg hc
theorem b9 (kk : Bw.WB Tryz.prog N ops ch (Az us) (fun _ => []) (k + 1) rest (Ch N o.dst r' F) S'' false D q) (hg : Am ops F o = some true := by exact rfl) (hc : ch k = true := by first | exact rfl | kernel_rfl) (h : Hz tyi Bq F S o.op = some (C, r, S') := by exact rfl) (hr : r = r' := by first | (apply Ck rfl; repeat (first | exact Bp rfl | apply Gx rfl | apply Gy rfl | apply Gz rfl)) | exact Lk rfl | (dsimp only [List.length_cons, List.length_nil, List.length_append, Nat.reduceAdd]; rfl) | rfl) (hS : S' = S'' := by (apply Ob rfl; repeat (first | exact Bp rfl | apply Gx rfl | apply Gy rfl | apply Gz rfl | exact Je rfl | apply Gg rfl | exact Jf rfl | apply Gh rfl | exact Np))) (hC : C := by first | exact True.intro | (simp only [IntKind.lo, IntKind.hi]; omega) | omega | decide) (ha : AgK ops k us S S'' := by repeat (first | exact Fk | refine A3 (Ah rfl Ar) ?_ | refine A3 (Ah rfl (Ah rfl Ar)) ?_ | refine A3 (Ah rfl (Ah rfl (Ah rfl Ar))) ?_ | refine A3 (Ah rfl (Ah rfl (Ah rfl (Ah rfl Ar)))) ?_ | refine Fc (by kernel_rfl) ?_)) : Bw.WB Tryz.prog N ops ch (Az us) (fun _ => []) k (o :: rest) F S false D q := by
  subst hr; subst hS; exact Lm (Ga Gl h hC) kk hg hc ha
theorem Tk {t : TypeId} {x y : Operand} {l : List (List DV)} {kd : IntKind} {j : Int} (e : List DV) (he : l[j.toNat]? = some e) (h0 : 0 <= j) (kk : Bw.WB Tryz.prog N ops ch (Az us) (fun _ => []) (k + 1) rest (Ch N o.dst (.ep e) F) S bm D q) (hg : Am ops F o = some true := by exact rfl) (hc : ch k = false := by first | exact rfl | kernel_rfl) (ho : o.op = .indexAddr t x y := by exact rfl) (hk : (Bq t && Nat.beq (tyi t).kind 2) = true := by exact rfl) (hx : ∀ S' : PS, S'.toS (tyi t).ek (evP F x) = some l := by exact fun _ => rfl) (hy : evP F y = .d (.v (.int kd j)) := by exact rfl) : Bw.WB Tryz.prog N ops ch (Az us) (fun _ => []) k (o :: rest) F S bm D q := by
  simp only [Bool.and_eq_true] at hk
  exact Ke (fun S' _ => I4 ho (Gl t hk.1) (Nat.eq_of_beq_eq_true hk.2) (hx S') hy h0 he) kk hg hc
variable {c : Operand} {al : Array Operand} {ats : Array TypeId} {f : Nat} {caps args : List PV} {c0 c1 : List PV} {x : Value}
theorem P7 (hD : An f args ⟨[], []⟩ (.ret r) ⟨[], []⟩) (kk : Bw.WB Tryz.prog N ops ch (Az us) (fun _ => []) (k + 1) rest (Ch N o.dst r F) S bm D q) (hg : Am ops F o = some true := by exact rfl) (ho : o.op = .call { callee := .value c, args := al, argTypes := ats } := by exact rfl) (hv : evP F c = .fn f caps := by exact rfl) (hlt : PV.ltL 0 0 args = true := by exact rfl) (hlr : r.lt 0 0 = true := by exact rfl) (ha : F6 S (al.toList.map (evP F) ++ caps) args := by repeat (first | exact Ad | refine Aa (Ab _) ?_)) (hp : (!ch k && Ta ops ch k) = true := by first | exact rfl | kernel_rfl) : Bw.WB Tryz.prog N ops ch (Az us) (fun _ => []) k (o :: rest) F S bm D q := by
  have h := L6 ho hD.1 hv hlt ha hD.2
  rw [Q1 r hlr] at h
  exact bpin h kk hg hp
theorem Z3 (id : Nat) (hD : An f args ⟨[c0], []⟩ (.ret r) ⟨[c1], []⟩) (kk : Bw.WB Tryz.prog N ops ch (Az us) (fun _ => []) (k + 1) rest (Ch N o.dst r F) S' false D q) (hg : Am ops F o = some true := by exact rfl) (ho : o.op = .call { callee := .value c, args := al, argTypes := ats } := by exact rfl) (hv : evP F c = .fn f caps := by exact rfl) (hb : S.boxes[id]? = some c0 := by exact rfl) (hl0 : PV.ltL 0 0 c0 = true := by exact rfl) (hl1 : PV.ltL 0 0 c1 = true := by exact rfl) (hlr : r.lt 0 0 = true := by exact rfl) (hlt : PV.ltL 1 0 args = true := by exact rfl) (ha : F6 S (al.toList.map (evP F) ++ caps) (PV.renL (fbN [id]) (ftN [] S.toks.length) args) := by repeat (first | exact Ad | refine Aa (Ab _) ?_)) (hS : S.setBox id c1 = S' := by exact rfl) (hc : ch k = true := by first | exact rfl | kernel_rfl) (hA : AgK ops k us S S' := by repeat (first | exact Fk | refine A3 (Ah rfl Ar) ?_ | refine A3 (Ah rfl (Ah rfl Ar)) ?_ | refine A3 (Ah rfl (Ah rfl (Ah rfl Ar))) ?_ | refine A3 (Ah rfl (Ah rfl (Ah rfl (Ah rfl Ar)))) ?_ | refine Fc (by kernel_rfl) ?_)) : Bw.WB Tryz.prog N ops ch (Az us) (fun _ => []) k (o :: rest) F S false D q := by
  subst hS; exact Lm (K3 hD ho hv hb hl0 hl1 hlr hlt ha) kk hg hc hA
theorem Un (id : Nat) (hD : An f args ⟨[c0], []⟩ (.panic x) ⟨[c1], []⟩) (kk : q (.panic x S')) (hg : Am ops F o = some true := by exact rfl) (ho : o.op = .call { callee := .value c, args := al, argTypes := ats } := by exact rfl) (hv : evP F c = .fn f caps := by exact rfl) (hb : S.boxes[id]? = some c0 := by exact rfl) (hl0 : PV.ltL 0 0 c0 = true := by exact rfl) (hl1 : PV.ltL 0 0 c1 = true := by exact rfl) (hlt : PV.ltL 1 0 args = true := by exact rfl) (ha : F6 S (al.toList.map (evP F) ++ caps) (PV.renL (fbN [id]) (ftN [] S.toks.length) args) := by repeat (first | exact Ad | refine Aa (Ab _) ?_)) (hS : S.setBox id c1 = S' := by exact rfl) (hc : ch k = true := by first | exact rfl | kernel_rfl) (hd : Fd (k :: D) (k + 1) rest = true := by kernel_rfl) : Bw.WB Tryz.prog N ops ch (Az us) (fun _ => []) k (o :: rest) F S false D q := by
  subst hS; exact Abm (K5 hD ho hv hb hl0 hl1 hlt ha) kk hg hc hd
end
theorem rl7 {G X : Prop} (h : X) (t : Hx X -> G := by (intro h; (first | refine b1 ?_ | refine b2 ?_ | refine b3 ?_ | refine b5 ?_ | refine b6 ?_ | refine b7 ?_ | refine b9 ?_ | refine b4 ?_ | refine b8 ?_ | fail); (repeat' (first | refine b1 ?_ | refine b2 ?_ | refine b3 ?_ | refine b5 ?_ | refine b6 ?_ | refine b7 ?_ | refine b9 ?_ | refine b4 ?_ | refine b8 ?_ | fail)); exact h.out)) : G := t ⟨h⟩
end Go.Proofs.YtiledamgmppcmaaGreatDoor
namespace Go.Proofs.YtiledamgmppcmaaGreatDoor
open Go.RowKit
@[reducible] def opL (m : Nat) (i : Nat) : List (Nat × PV) := [(0, .ptr 0 0), (1, Ai m), (8, .agg Adr), (9, Ai i)]
theorem Ky {l : List TkZ} {a m : Nat} (hm : lvM m) (hl : l.length <= 9223372036854775806) (h : Bd l a m = none) : An 153 [.ptr 0 0, Ai m] (pxS l a) (.ret (.tup [Ai 0, A7 false])) (pxS l a) := by
  rw [E8 l a hm, Option.map_eq_none_iff] at h
  have hno : ∀ i, i < 20 -> Hb l a m i = false := fun i hi => by
    have := List.find?_eq_none.1 h i (List.mem_range.2 hi); simpa using this
  refine Af Tryz.func153 rfl rfl (Nat.le_of_ble_eq_true rfl) rfl (Nat.le_refl _) ?_
  repeat' (first | refine rl0 ?_ | refine rs0 (fun h => ?_) (fun h => ?_) | fail)
  refine D3 Et rfl rfl rfl rfl rfl (by repeat (first | exact Ad | refine Aa (Ab _) ?_)) ?_
  repeat' (first | refine rl0 ?_ | refine rs0 (fun h => ?_) (fun h => ?_) | fail)
  refine F9 (ι := Nat) (ok := fun i => i <= 20) (L := opL m) (Sx := fun _ => pxS l a) (μ := fun i => 20 - i) 0 (Nat.zero_le _) (by repeat (first | exact Ag | refine Ac rfl ?_)) rfl ?_
  intro i hi
  repeat' (first | refine rl0 ?_ | refine rs0 (fun h => ?_) (fun h => ?_) | fail)
  . have hlt : i < 20 := by simp at h; omega
    have hn := hno i hlt
    unfold Hb at hn
    refine wiv (opP (opN i)) rfl rfl rfl rfl rfl ⟨by omega, by show (i : Int) < 20; omega⟩ (Ig hlt) ?_
    repeat' (first | refine rl0 ?_ | refine rs0 (fun h => ?_) (fun h => ?_) | fail)
    . have hb : Ba l a (opN i).2.2.2.2 = false := by simp_all
      refine wcb (id := 0) (Aj hl hb) rfl rfl rfl rfl rfl rfl rfl rfl (by repeat (first | exact Ad | refine Aa (Ab _) ?_)) rfl ?_
      repeat' (first | refine rl0 ?_ | refine rs0 (fun h => ?_) (fun h => ?_) | fail)
      exact ⟨i + 1, by omega, by omega, (by repeat (first | exact Ag | refine Ac rfl ?_)), rfl, rfl, rfl, Nat.le_refl _, Nat.le_refl _⟩
    . exact ⟨i + 1, by omega, by omega, (by repeat (first | exact Ag | refine Ac rfl ?_)), rfl, rfl, rfl, Nat.le_refl _, Nat.le_refl _⟩
    . exact ⟨i + 1, by omega, by omega, (by repeat (first | exact Ag | refine Ac rfl ?_)), rfl, rfl, rfl, Nat.le_refl _, Nat.le_refl _⟩
  . rfl
theorem Db {l : List TkZ} {a m : Nat} {op : Int} (hm : lvM m) (hl : l.length <= 9223372036854775806) (h : Bd l a m = some op) : An 153 [.ptr 0 0, Ai m] (pxS l a) (.ret (.tup [Ai op, A7 true])) (pxS l (a + 1)) := by
  rw [E8 l a hm] at h
  obtain ⟨k, hk, rfl⟩ := Option.map_eq_some_iff.1 h
  rw [List.find?_range_eq_some] at hk
  obtain ⟨hk1, hk2, hk3⟩ := hk
  have hk2 : k < 20 := by simpa using hk2
  have hno : ∀ i, i < k -> Hb l a m i = false := fun i hi => by simpa using hk3 i hi
  refine Af Tryz.func153 rfl rfl (Nat.le_of_ble_eq_true rfl) rfl (Nat.le_refl _) ?_
  repeat' (first | refine rl0 ?_ | refine rs0 (fun h => ?_) (fun h => ?_) | fail)
  refine D3 Et rfl rfl rfl rfl rfl (by repeat (first | exact Ad | refine Aa (Ab _) ?_)) ?_
  repeat' (first | refine rl0 ?_ | refine rs0 (fun h => ?_) (fun h => ?_) | fail)
  refine F9 (ι := Nat) (ok := fun i => i <= k) (L := opL m) (Sx := fun _ => pxS l a) (μ := fun i => k - i) 0 (Nat.zero_le _) (by repeat (first | exact Ag | refine Ac rfl ?_)) rfl ?_
  intro i hi
  repeat' (first | refine rl0 ?_ | refine rs0 (fun h => ?_) (fun h => ?_) | fail)
  . have hlt : i < 20 := by simp at h; omega
    refine wiv (opP (opN i)) rfl rfl rfl rfl rfl ⟨by omega, by show (i : Int) < 20; omega⟩ (Ig hlt) ?_
    by_cases hik : i < k
    . have hn := hno i hik
      unfold Hb at hn
      repeat' (first | refine rl0 ?_ | refine rs0 (fun h => ?_) (fun h => ?_) | fail)
      . have hb : Ba l a (opN i).2.2.2.2 = false := by simp_all
        refine wcb (id := 0) (Aj hl hb) rfl rfl rfl rfl rfl rfl rfl rfl (by repeat (first | exact Ad | refine Aa (Ab _) ?_)) rfl ?_
        repeat' (first | refine rl0 ?_ | refine rs0 (fun h => ?_) (fun h => ?_) | fail)
        exact ⟨i + 1, by omega, by omega, (by repeat (first | exact Ag | refine Ac rfl ?_)), rfl, rfl, rfl, Nat.le_refl _, Nat.le_refl _⟩
      . exact ⟨i + 1, by omega, by omega, (by repeat (first | exact Ag | refine Ac rfl ?_)), rfl, rfl, rfl, Nat.le_refl _, Nat.le_refl _⟩
      . exact ⟨i + 1, by omega, by omega, (by repeat (first | exact Ag | refine Ac rfl ?_)), rfl, rfl, rfl, Nat.le_refl _, Nat.le_refl _⟩
    . obtain rfl : i = k := by omega
      unfold Hb at hk1
      simp only [Bool.and_eq_true] at hk1
      obtain ⟨e1, e2, hb⟩ := hk1
      repeat' (first | refine rl0 ?_ | refine rs0 (fun h => ?_) (fun h => ?_) | fail)
      . refine wcb (id := 0) (As hl hb) rfl rfl rfl rfl rfl rfl rfl rfl (by repeat (first | exact Ad | refine Aa (Ab _) ?_)) rfl ?_
        repeat' (first | refine rl0 ?_ | refine rs0 (fun h => ?_) (fun h => ?_) | fail)
        rfl
      . exfalso; simp_all
      . exfalso; simp_all
  . exfalso; simp at h; omega
end Go.Proofs.YtiledamgmppcmaaGreatDoor
namespace Go.Proofs.YtiledamgmppcmaaGreatDoor
open Go.RowKit
theorem Bu {p : PRes} {f : Ex -> Nat -> PRes} (h : p.bad = true) : p.go f = .no p.at' := if_pos h
theorem Cu {p : PRes} {f : Ex -> Nat -> PRes} (h : p.bad = false) : p.go f = f p.x p.at' := if_neg (by rw [h]; simp)
theorem E3 {l : List TkZ} {a : Nat} {s : ByteArray} {f : Nat -> PRes} (h : Ba l a s = false) : Ct l a s f = .no a := if_neg (by rw [h]; simp)
theorem E4 {l : List TkZ} {a : Nat} {s : ByteArray} {f : Nat -> PRes} (h : Ba l a s = true) : Ct l a s f = f (a + 1) := if_pos h
def Gs (f : Nat) (args : List PV) (l : List TkZ) (a : Nat) (r : PRes) : Prop := An f args (pxS l a) (bif r.bad then .panic Fv else .ret (exP r.x)) (pxS l r.at')
theorem Gs.ok {f : Nat} {args : List PV} {l : List TkZ} {a : Nat} {r : PRes} (h : Gs f args l a r) (hb : r.bad = false) : An f args (pxS l a) (.ret (exP r.x)) (pxS l r.at') := by
  unfold Gs at h; rw [hb] at h; exact h
theorem Gs.no {f : Nat} {args : List PV} {l : List TkZ} {a : Nat} {r : PRes} (h : Gs f args l a r) (hb : r.bad = true) : An f args (pxS l a) (.panic Fv) (pxS l r.at') := by
  unfold Gs at h; rw [hb] at h; exact h
theorem Qe {f : Nat} {args : List PV} {l : List TkZ} {a : Nat} {r : PRes} (h0 : r.bad = false -> An f args (pxS l a) (.ret (exP r.x)) (pxS l r.at')) (h1 : r.bad = true -> An f args (pxS l a) (.panic Fv) (pxS l r.at')) : Gs f args l a r := by
  unfold Gs
  cases hb : r.bad with
  | false => exact h0 hb
  | true => exact h1 hb
@[reducible] def exR (x : Ex) : List DV := [.v (.int .i64 x.op), .v (.int .i64 x.n), .v (.string x.name), .sl 4 (Eb x.args)]
theorem J0 (x : Ex) : exD x = exR x := by cases x; rfl
theorem Ox (op : Int) (x : Ex) : An 114 [Ai op, .d (.sl 4 [exR x])] ⟨[], []⟩ (.ret (exP (nd op [x]))) ⟨[], []⟩ := by
  have h := D0 op [x]
  simp only [Eb, J0] at h; exact h
theorem Lj (op : Int) (x y : Ex) : An 114 [Ai op, .d (.sl 4 [exR x, exR y])] ⟨[], []⟩ (.ret (exP (nd op [x, y]))) ⟨[], []⟩ := by
  have h := D0 op [x, y]
  simp only [Eb, J0] at h; exact h
theorem V0 (op : Int) (x y z : Ex) : An 114 [Ai op, .d (.sl 4 [exR x, exR y, exR z])] ⟨[], []⟩ (.ret (exP (nd op [x, y, z]))) ⟨[], []⟩ := by
  have h := D0 op [x, y, z]
  simp only [Eb, J0] at h; exact h
def fnM (m : Nat) : Nat := if m = 0 then 71 else if m = 3 then 188 else if m = 7 then 189 else 112
def Aia (m : Nat) : List PV := if m = 0 \/ m = 3 \/ m = 7 then [.ptr 0 0] else [.ptr 0 0, Ai m]
def Q6 (l : List TkZ) (n : Nat) : Prop := ∀ m a, m <= 7 -> m ≠ 4 -> a <= l.length -> 8 * (l.length - a) + A5 m <= n -> Gs (fnM m) (Aia m) l a (pE l n m a)
section
variable {l : List TkZ} {n : Nat} (hl : l.length <= 9223372036854775806) (ih : Q6 l n)
include hl ih
theorem Ql {a : Nat} (ha : a <= l.length) (hn : 8 * (l.length - a) + 8 <= n + 1) : Gs 71 [.ptr 0 0] l a (pE l (n + 1) 0 a) := by
  rw [pE]
  cases h : Ba l a kIf with
  | false =>
    rw [if_neg (by simp)]
    have hc : Gs 112 [.ptr 0 0, Ai 1] l a (pE l n 1 a) := ih 1 a (by omega) (by omega) ha (by simp [A5]; omega)
    refine Qe (fun hb => ?_) fun hb => ?_
    . refine Af Tryz.func71 rfl rfl (Nat.le_of_ble_eq_true rfl) rfl (Nat.le_refl _) ?_
      repeat' (first | refine rl0 ?_ | refine rs0 (fun h => ?_) (fun h => ?_) | fail)
      refine wb1 0 (Aj hl h) ?_
      repeat' (first | refine rl0 ?_ | refine rs0 (fun h => ?_) (fun h => ?_) | fail)
      refine wb1 0 (hc.ok hb) ?_
      repeat' (first | refine rl0 ?_ | refine rs0 (fun h => ?_) (fun h => ?_) | fail)
      rfl
    . refine A1 Tryz.func71 rfl rfl (Nat.le_of_ble_eq_true rfl) ?_
      repeat' (first | refine rl0 ?_ | refine rs0 (fun h => ?_) (fun h => ?_) | fail)
      refine wb1 0 (Aj hl h) ?_
      repeat' (first | refine rl0 ?_ | refine rs0 (fun h => ?_) (fun h => ?_) | fail)
      refine Jy 0 (hc.no hb) ?_
      exact ⟨rfl, rfl, rfl⟩
  | true =>
    rw [if_pos rfl]
    have h0 := Bs h
    have g1 : Gs 71 [.ptr 0 0] l (a + 1) (pE l n 0 (a + 1)) := ih 0 (a + 1) (by omega) (by omega) h0 (by simp [A5]; omega)
    have p1 := Gc l n 0 (a + 1)
    have p2 := Dg l n 0 (a + 1) h0
    generalize pE l n 0 (a + 1) = p at g1 p1 p2 |-
    cases hb : p.bad with
    | true =>
      rw [Bu hb]
      show An _ _ _ (.panic Fv) (pxS l p.at')
      refine A1 Tryz.func71 rfl rfl (Nat.le_of_ble_eq_true rfl) ?_
      repeat' (first | refine rl0 ?_ | refine rs0 (fun h => ?_) (fun h => ?_) | fail)
      refine wb1 0 (As hl h) ?_
      repeat' (first | refine rl0 ?_ | refine rs0 (fun h => ?_) (fun h => ?_) | fail)
      refine Jy 0 (g1.no hb) ?_
      exact ⟨rfl, rfl, rfl⟩
    | false =>
    rw [Cu hb]
    have g1 := g1.ok hb
    cases ht : Ba l p.at' Kq with
    | false =>
      rw [E3 ht]
      show An _ _ _ (.panic Fv) (pxS l p.at')
      refine A1 Tryz.func71 rfl rfl (Nat.le_of_ble_eq_true rfl) ?_
      repeat' (first | refine rl0 ?_ | refine rs0 (fun h => ?_) (fun h => ?_) | fail)
      refine wb1 0 (As hl h) ?_
      repeat' (first | refine rl0 ?_ | refine rs0 (fun h => ?_) (fun h => ?_) | fail)
      refine wb1 0 g1 ?_
      repeat' (first | refine rl0 ?_ | refine rs0 (fun h => ?_) (fun h => ?_) | fail)
      refine Jy 0 (Fg hl ht) ?_
      exact ⟨rfl, rfl, rfl⟩
    | true =>
    rw [E4 ht]
    have h1 := Bs ht
    have g2 : Gs 71 [.ptr 0 0] l (p.at' + 1) (pE l n 0 (p.at' + 1)) := ih 0 (p.at' + 1) (by omega) (by omega) h1 (by simp [A5]; omega)
    have p3 := Gc l n 0 (p.at' + 1)
    have p4 := Dg l n 0 (p.at' + 1) h1
    generalize pE l n 0 (p.at' + 1) = q at g2 p3 p4 |-
    cases hc : q.bad with
    | true =>
      rw [Bu hc]
      show An _ _ _ (.panic Fv) (pxS l q.at')
      refine A1 Tryz.func71 rfl rfl (Nat.le_of_ble_eq_true rfl) ?_
      repeat' (first | refine rl0 ?_ | refine rs0 (fun h => ?_) (fun h => ?_) | fail)
      refine wb1 0 (As hl h) ?_
      repeat' (first | refine rl0 ?_ | refine rs0 (fun h => ?_) (fun h => ?_) | fail)
      refine wb1 0 g1 ?_
      repeat' (first | refine rl0 ?_ | refine rs0 (fun h => ?_) (fun h => ?_) | fail)
      refine wb1 0 (C1 hl ht) ?_
      repeat' (first | refine rl0 ?_ | refine rs0 (fun h => ?_) (fun h => ?_) | fail)
      refine Jy 0 (g2.no hc) ?_
      exact ⟨rfl, rfl, rfl⟩
    | false =>
    rw [Cu hc]
    have g2 := g2.ok hc
    cases he : Ba l q.at' Kp with
    | false =>
      rw [E3 he]
      show An _ _ _ (.panic Fv) (pxS l q.at')
      refine A1 Tryz.func71 rfl rfl (Nat.le_of_ble_eq_true rfl) ?_
      repeat' (first | refine rl0 ?_ | refine rs0 (fun h => ?_) (fun h => ?_) | fail)
      refine wb1 0 (As hl h) ?_
      repeat' (first | refine rl0 ?_ | refine rs0 (fun h => ?_) (fun h => ?_) | fail)
      refine wb1 0 g1 ?_
      repeat' (first | refine rl0 ?_ | refine rs0 (fun h => ?_) (fun h => ?_) | fail)
      refine wb1 0 (C1 hl ht) ?_
      repeat' (first | refine rl0 ?_ | refine rs0 (fun h => ?_) (fun h => ?_) | fail)
      refine wb1 0 g2 ?_
      repeat' (first | refine rl0 ?_ | refine rs0 (fun h => ?_) (fun h => ?_) | fail)
      refine Jy 0 (Fg hl he) ?_
      exact ⟨rfl, rfl, rfl⟩
    | true =>
    rw [E4 he]
    have h2 := Bs he
    have g3 : Gs 71 [.ptr 0 0] l (q.at' + 1) (pE l n 0 (q.at' + 1)) := ih 0 (q.at' + 1) (by omega) (by omega) h2 (by simp [A5]; omega)
    generalize pE l n 0 (q.at' + 1) = r at g3 |-
    cases hd : r.bad with
    | true =>
      rw [Bu hd]
      show An _ _ _ (.panic Fv) (pxS l r.at')
      refine A1 Tryz.func71 rfl rfl (Nat.le_of_ble_eq_true rfl) ?_
      repeat' (first | refine rl0 ?_ | refine rs0 (fun h => ?_) (fun h => ?_) | fail)
      refine wb1 0 (As hl h) ?_
      repeat' (first | refine rl0 ?_ | refine rs0 (fun h => ?_) (fun h => ?_) | fail)
      refine wb1 0 g1 ?_
      repeat' (first | refine rl0 ?_ | refine rs0 (fun h => ?_) (fun h => ?_) | fail)
      refine wb1 0 (C1 hl ht) ?_
      repeat' (first | refine rl0 ?_ | refine rs0 (fun h => ?_) (fun h => ?_) | fail)
      refine wb1 0 g2 ?_
      repeat' (first | refine rl0 ?_ | refine rs0 (fun h => ?_) (fun h => ?_) | fail)
      refine wb1 0 (C1 hl he) ?_
      repeat' (first | refine rl2 ?_ | refine rs2 (fun h => ?_) (fun h => ?_) | fail)
      refine Dx (fun k => Nat.beq k 3 || Nat.beq k 6) [2, 3] [] rfl (by kernel_rfl) ?_
      repeat' (first | refine rl6 ?_ | refine rs6 (fun h => ?_) (fun h => ?_) | fail)
      refine Ado 0 (g3.no hd) ?_
      exact ⟨rfl, rfl, rfl⟩
    | false =>
    rw [Cu hd]
    show An _ _ _ (.ret (exP (nd 19 [p.x, q.x, r.x]))) (pxS l r.at')
    refine Af Tryz.func71 rfl rfl (Nat.le_of_ble_eq_true rfl) rfl (Nat.le_refl _) ?_
    repeat' (first | refine rl0 ?_ | refine rs0 (fun h => ?_) (fun h => ?_) | fail)
    refine wb1 0 (As hl h) ?_
    repeat' (first | refine rl0 ?_ | refine rs0 (fun h => ?_) (fun h => ?_) | fail)
    refine wb1 0 g1 ?_
    repeat' (first | refine rl0 ?_ | refine rs0 (fun h => ?_) (fun h => ?_) | fail)
    refine wb1 0 (C1 hl ht) ?_
    repeat' (first | refine rl0 ?_ | refine rs0 (fun h => ?_) (fun h => ?_) | fail)
    refine wb1 0 g2 ?_
    repeat' (first | refine rl0 ?_ | refine rs0 (fun h => ?_) (fun h => ?_) | fail)
    refine wb1 0 (C1 hl he) ?_
    repeat' (first | refine rl2 ?_ | refine rs2 (fun h => ?_) (fun h => ?_) | fail)
    refine Dx (fun k => Nat.beq k 3 || Nat.beq k 6) [2, 3] [] rfl (by kernel_rfl) ?_
    repeat' (first | refine rl6 ?_ | refine rs6 (fun h => ?_) (fun h => ?_) | fail)
    refine wb1a 0 (g3.ok hd) ?_
    repeat' (first | refine rl6 ?_ | refine rs6 (fun h => ?_) (fun h => ?_) | fail)
    refine wp1a (V0 19 p.x q.x r.x) ?_
    repeat' (first | refine rl6 ?_ | refine rs6 (fun h => ?_) (fun h => ?_) | fail)
    repeat' (first | refine rl0 ?_ | refine rs0 (fun h => ?_) (fun h => ?_) | fail)
    rfl
end
end Go.Proofs.YtiledamgmppcmaaGreatDoor
namespace Go.Proofs.YtiledamgmppcmaaGreatDoor
open Go.RowKit
theorem Fh {l : List TkZ} {n : Nat} (ih : Q6 l n) {m a : Nat} (hm : m = 1 \/ m = 2 \/ m = 5 \/ m = 6) (ha : a <= l.length) (hn : 8 * (l.length - a) + A5 (Ao m) <= n) : Gs 152 [.ptr 0 0, Ai m] l a (pE l n (Ao m) a) := by
  have h := ih (Ao m) a (by rcases hm with rfl | rfl | rfl | rfl <;> decide) (by rcases hm with rfl | rfl | rfl | rfl <;> decide) ha hn
  rcases hm with rfl | rfl | rfl | rfl
  all_goals
    refine Qe (fun hb => ?_) fun hb => ?_
    . refine Af Tryz.func152 rfl rfl (Nat.le_of_ble_eq_true rfl) rfl (Nat.le_refl _) ?_
      repeat' (first | refine rl0 ?_ | refine rs0 (fun h => ?_) (fun h => ?_) | fail)
      refine wb1 0 (h.ok hb) ?_
      repeat' (first | refine rl0 ?_ | refine rs0 (fun h => ?_) (fun h => ?_) | fail)
      rfl
    . refine A1 Tryz.func152 rfl rfl (Nat.le_of_ble_eq_true rfl) ?_
      repeat' (first | refine rl0 ?_ | refine rs0 (fun h => ?_) (fun h => ?_) | fail)
      refine Jy 0 (h.no hb) ?_
      exact ⟨rfl, rfl, rfl⟩
theorem Mf {m : Nat} (hm : m = 1 \/ m = 2 \/ m = 5 \/ m = 6) : lvM m := by unfold lvM; omega
theorem Hd {m : Nat} (hm : m = 1 \/ m = 2 \/ m = 5 \/ m = 6) : A5 (Ao m) + 1 <= A5 m /\ A5 (Ao m) <= 6 /\ 2 <= A5 (Ao m) := by rcases hm with rfl | rfl | rfl | rfl <;> decide
@[reducible] def chS (l : List TkZ) (i : Ex × Nat × Nat) : PS := ⟨[[.d (.sl 3 (l.map tkR)), Ai i.2.1], D4, (exP i.1).parts], []⟩
@[reducible] def chL (m : Nat) (_ : Ex × Nat × Nat) : List (Nat × PV) := [(0, .ptr 0 0), (1, Ai m), (4, .ptr 1 0), (5, .ptr 2 0)]
theorem M2 {l : List TkZ} {n : Nat} (hl : l.length <= 9223372036854775806) (ih : ∀ k, k <= n -> Q6 l k) {m a : Nat} (hm : m = 1 \/ m = 2 \/ m = 5 \/ m = 6) (ha : a <= l.length) (hn : 8 * (l.length - a) + A5 m <= n + 1) : Gs 112 [.ptr 0 0, Ai m] l a (pE l (n + 1) m a) := by
  rw [Dz l n m a (by omega) (by omega) (by omega)]
  obtain ⟨r1, r2, r3⟩ := Hd hm
  have g1 := Fh (ih n (Nat.le_refl _)) hm ha (by omega)
  have p1 := Gc l n (Ao m) a
  have p2 := Dg l n (Ao m) a ha
  generalize pE l n (Ao m) a = p at g1 p1 p2 |-
  cases hb : p.bad with
  | true =>
    rw [Bu hb]
    show An _ _ _ (.panic Fv) (pxS l p.at')
    refine A1 Tryz.func112 rfl rfl (Nat.le_of_ble_eq_true rfl) ?_
    repeat' (first | refine rl0 ?_ | refine rs0 (fun h => ?_) (fun h => ?_) | fail)
    refine Jy 0 (g1.no hb) ?_
    exact ⟨rfl, rfl, rfl⟩
  | false =>
  rw [Cu hb]
  have g1 := g1.ok hb
  obtain ⟨R, hR⟩ : ∃ R, pR l n m p.x p.at' = R := ⟨_, rfl⟩
  rw [hR]
  refine Qe (fun hr => ?_) fun hr => ?_
  . refine Af Tryz.func112 rfl rfl (Nat.le_of_ble_eq_true rfl) rfl (Nat.le_refl _) ?_
    repeat' (first | refine rl0 ?_ | refine rs0 (fun h => ?_) (fun h => ?_) | fail)
    refine wb1 0 g1 ?_
    repeat' (first | refine rl0 ?_ | refine rs0 (fun h => ?_) (fun h => ?_) | fail)
    refine Bt (ι := Ex × Nat × Nat) (ok := fun i => i.2.1 <= l.length /\ 8 * (l.length - i.2.1) + 1 <= i.2.2 /\ i.2.2 <= n /\ pR l i.2.2 m i.1 i.2.1 = R) (L := chL m) (Sx := chS l) (μ := fun i => i.2.2) (p.x, p.at', n) ⟨p2, by show 8 * (l.length - p.at') + 1 <= n; omega, Nat.le_refl _, hR⟩ (by repeat (first | exact Ag | refine Ac rfl ?_)) rfl ?_
    rintro ⟨x, b, k⟩ ⟨hbl, hk, hkn, hx⟩
    simp only at hbl hk hkn hx
    obtain ⟨k, rfl⟩ : ∃ j, k = j + 1 := ⟨k - 1, by omega⟩
    rw [pR] at hx
    cases ho : Bd l b m with
    | none =>
      rw [ho] at hx
      subst hx
      repeat' (first | refine rl0 ?_ | refine rs0 (fun h => ?_) (fun h => ?_) | fail)
      refine wb1 0 (Ky (Mf hm) hl ho) ?_
      repeat' (first | refine rl0 ?_ | refine rs0 (fun h => ?_) (fun h => ?_) | fail)
      rfl
    | some op =>
      rw [ho] at hx
      simp only at hx
      have h1 := B0 ho
      have g2 := Fh (ih k (by omega)) hm (a := b + 1) h1 (by omega)
      have p3 := Gc l k (Ao m) (b + 1)
      have p4 := Dg l k (Ao m) (b + 1) h1
      generalize pE l k (Ao m) (b + 1) = y at g2 p3 p4 hx
      cases hy : y.bad with
      | true => rw [Bu hy] at hx; subst hx; cases hr
      | false =>
      rw [Cu hy] at hx
      repeat' (first | refine rl0 ?_ | refine rs0 (fun h => ?_) (fun h => ?_) | fail)
      refine wb1 0 (Db (Mf hm) hl ho) ?_
      repeat' (first | refine rl2 ?_ | refine rs2 (fun h => ?_) (fun h => ?_) | fail)
      refine b0 (fun k => Nat.beq k 4 || Nat.beq k 7) [(1, [2])] ?_
      repeat' (first | refine rl7 ?_ | refine rs7 (fun h => ?_) (fun h => ?_) | fail)
      refine Z3 0 (g2.ok hy) ?_
      repeat' (first | refine rl7 ?_ | refine rs7 (fun h => ?_) (fun h => ?_) | fail)
      refine P7 (Lj op x y.x) ?_
      repeat' (first | refine rl7 ?_ | refine rs7 (fun h => ?_) (fun h => ?_) | fail)
      repeat' (first | refine rl0 ?_ | refine rs0 (fun h => ?_) (fun h => ?_) | fail)
      exact ⟨(nd op [x, y.x], y.at', k), ⟨p4, by show 8 * (l.length - y.at') + 1 <= k; omega, by show k <= n; omega, hx⟩, Nat.lt_succ_self k, (by repeat (first | exact Ag | refine Ac rfl ?_)), rfl⟩
  . refine A1 Tryz.func112 rfl rfl (Nat.le_of_ble_eq_true rfl) ?_
    repeat' (first | refine rl0 ?_ | refine rs0 (fun h => ?_) (fun h => ?_) | fail)
    refine wb1 0 g1 ?_
    repeat' (first | refine rl0 ?_ | refine rs0 (fun h => ?_) (fun h => ?_) | fail)
    refine Bt (ι := Ex × Nat × Nat) (ok := fun i => i.2.1 <= l.length /\ 8 * (l.length - i.2.1) + 1 <= i.2.2 /\ i.2.2 <= n /\ pR l i.2.2 m i.1 i.2.1 = R) (L := chL m) (Sx := chS l) (μ := fun i => i.2.2) (p.x, p.at', n) ⟨p2, by show 8 * (l.length - p.at') + 1 <= n; omega, Nat.le_refl _, hR⟩ (by repeat (first | exact Ag | refine Ac rfl ?_)) rfl ?_
    rintro ⟨x, b, k⟩ ⟨hbl, hk, hkn, hx⟩
    simp only at hbl hk hkn hx
    obtain ⟨k, rfl⟩ : ∃ j, k = j + 1 := ⟨k - 1, by omega⟩
    rw [pR] at hx
    cases ho : Bd l b m with
    | none =>
      rw [ho] at hx
      subst hx
      cases hr
    | some op =>
      rw [ho] at hx
      simp only at hx
      have h1 := B0 ho
      have g2 := Fh (ih k (by omega)) hm (a := b + 1) h1 (by omega)
      have p3 := Gc l k (Ao m) (b + 1)
      have p4 := Dg l k (Ao m) (b + 1) h1
      generalize pE l k (Ao m) (b + 1) = y at g2 p3 p4 hx
      cases hy : y.bad with
      | true =>
        rw [Bu hy] at hx; subst hx
        repeat' (first | refine rl0 ?_ | refine rs0 (fun h => ?_) (fun h => ?_) | fail)
        refine wb1 0 (Db (Mf hm) hl ho) ?_
        repeat' (first | refine rl2 ?_ | refine rs2 (fun h => ?_) (fun h => ?_) | fail)
        refine b0 (fun k => Nat.beq k 4 || Nat.beq k 7) [(1, [2])] ?_
        repeat' (first | refine rl7 ?_ | refine rs7 (fun h => ?_) (fun h => ?_) | fail)
        refine Un 0 (g2.no hy) ?_
        exact ⟨rfl, rfl, rfl⟩
      | false =>
      rw [Cu hy] at hx
      repeat' (first | refine rl0 ?_ | refine rs0 (fun h => ?_) (fun h => ?_) | fail)
      refine wb1 0 (Db (Mf hm) hl ho) ?_
      repeat' (first | refine rl2 ?_ | refine rs2 (fun h => ?_) (fun h => ?_) | fail)
      refine b0 (fun k => Nat.beq k 4 || Nat.beq k 7) [(1, [2])] ?_
      repeat' (first | refine rl7 ?_ | refine rs7 (fun h => ?_) (fun h => ?_) | fail)
      refine Z3 0 (g2.ok hy) ?_
      repeat' (first | refine rl7 ?_ | refine rs7 (fun h => ?_) (fun h => ?_) | fail)
      refine P7 (Lj op x y.x) ?_
      repeat' (first | refine rl7 ?_ | refine rs7 (fun h => ?_) (fun h => ?_) | fail)
      repeat' (first | refine rl0 ?_ | refine rs0 (fun h => ?_) (fun h => ?_) | fail)
      exact ⟨(nd op [x, y.x], y.at', k), ⟨p4, by show 8 * (l.length - y.at') + 1 <= k; omega, by show k <= n; omega, hx⟩, Nat.lt_succ_self k, (by repeat (first | exact Ag | refine Ac rfl ?_)), rfl⟩
theorem Vj {l : List TkZ} {n : Nat} (hl : l.length <= 9223372036854775806) (ih : Q6 l n) {a : Nat} (ha : a <= l.length) (hn : 8 * (l.length - a) + 5 <= n + 1) : Gs 188 [.ptr 0 0] l a (pE l (n + 1) 3 a) := by
  rw [pE]
  cases h : Ba l a Ab6 with
  | true =>
    rw [if_pos rfl]
    have h0 := Bs h
    have g1 : Gs 188 [.ptr 0 0] l (a + 1) (pE l n 3 (a + 1)) := ih 3 (a + 1) (by omega) (by omega) h0 (by simp [A5]; omega)
    generalize pE l n 3 (a + 1) = p at g1 |-
    cases hb : p.bad with
    | true =>
      rw [Bu hb]
      show An _ _ _ (.panic Fv) (pxS l p.at')
      refine A1 Tryz.func188 rfl rfl (Nat.le_of_ble_eq_true rfl) ?_
      repeat' (first | refine rl0 ?_ | refine rs0 (fun h => ?_) (fun h => ?_) | fail)
      refine wb1 0 (As hl h) ?_
      repeat' (first | refine rl0 ?_ | refine rs0 (fun h => ?_) (fun h => ?_) | fail)
      refine Jy 0 (g1.no hb) ?_
      exact ⟨rfl, rfl, rfl⟩
    | false =>
    rw [Cu hb]
    show An _ _ _ (.ret (exP (nd 6 [p.x]))) (pxS l p.at')
    refine Af Tryz.func188 rfl rfl (Nat.le_of_ble_eq_true rfl) rfl (Nat.le_refl _) ?_
    repeat' (first | refine rl0 ?_ | refine rs0 (fun h => ?_) (fun h => ?_) | fail)
    refine wb1 0 (As hl h) ?_
    repeat' (first | refine rl0 ?_ | refine rs0 (fun h => ?_) (fun h => ?_) | fail)
    refine wb1 0 (g1.ok hb) ?_
    repeat' (first | refine rl0 ?_ | refine rs0 (fun h => ?_) (fun h => ?_) | fail)
    refine wp1 (Ox 6 p.x) ?_
    repeat' (first | refine rl0 ?_ | refine rs0 (fun h => ?_) (fun h => ?_) | fail)
    rfl
  | false =>
    rw [if_neg (by simp)]
    have g1 : Gs 112 [.ptr 0 0, Ai 5] l a (pE l n 5 a) := ih 5 a (by omega) (by omega) ha (by simp [A5]; omega)
    have p1 := Gc l n 5 a
    have p2 := Dg l n 5 a ha
    generalize pE l n 5 a = p at g1 p1 p2 |-
    cases hb : p.bad with
    | true =>
      rw [Bu hb]
      show An _ _ _ (.panic Fv) (pxS l p.at')
      refine A1 Tryz.func188 rfl rfl (Nat.le_of_ble_eq_true rfl) ?_
      repeat' (first | refine rl0 ?_ | refine rs0 (fun h => ?_) (fun h => ?_) | fail)
      refine wb1 0 (Aj hl h) ?_
      repeat' (first | refine rl0 ?_ | refine rs0 (fun h => ?_) (fun h => ?_) | fail)
      refine Jy 0 (g1.no hb) ?_
      exact ⟨rfl, rfl, rfl⟩
    | false =>
    rw [Cu hb]
    have g1 := g1.ok hb
    have h4 : lvM 4 := by unfold lvM; omega
    cases ho : Bd l p.at' 4 with
    | none =>
      show An _ _ _ (.ret (exP p.x)) (pxS l p.at')
      refine Af Tryz.func188 rfl rfl (Nat.le_of_ble_eq_true rfl) rfl (Nat.le_refl _) ?_
      repeat' (first | refine rl0 ?_ | refine rs0 (fun h => ?_) (fun h => ?_) | fail)
      refine wb1 0 (Aj hl h) ?_
      repeat' (first | refine rl0 ?_ | refine rs0 (fun h => ?_) (fun h => ?_) | fail)
      refine wb1 0 g1 ?_
      repeat' (first | refine rl0 ?_ | refine rs0 (fun h => ?_) (fun h => ?_) | fail)
      refine wb1 0 (Ky h4 hl ho) ?_
      repeat' (first | refine rl0 ?_ | refine rs0 (fun h => ?_) (fun h => ?_) | fail)
      rfl
    | some op =>
      have h1 := B0 ho
      have g2 : Gs 112 [.ptr 0 0, Ai 5] l (p.at' + 1) (pE l n 5 (p.at' + 1)) := ih 5 (p.at' + 1) (by omega) (by omega) h1 (by simp [A5]; omega)
      show Gs _ _ l a ((pE l n 5 (p.at' + 1)).go fun y c => .yes (nd op [p.x, y]) c)
      generalize pE l n 5 (p.at' + 1) = y at g2 |-
      cases hy : y.bad with
      | true =>
        rw [Bu hy]
        show An _ _ _ (.panic Fv) (pxS l y.at')
        refine A1 Tryz.func188 rfl rfl (Nat.le_of_ble_eq_true rfl) ?_
        repeat' (first | refine rl0 ?_ | refine rs0 (fun h => ?_) (fun h => ?_) | fail)
        refine wb1 0 (Aj hl h) ?_
        repeat' (first | refine rl0 ?_ | refine rs0 (fun h => ?_) (fun h => ?_) | fail)
        refine wb1 0 g1 ?_
        repeat' (first | refine rl0 ?_ | refine rs0 (fun h => ?_) (fun h => ?_) | fail)
        refine wb1 0 (Db h4 hl ho) ?_
        repeat' (first | refine rl2 ?_ | refine rs2 (fun h => ?_) (fun h => ?_) | fail)
        refine b0 (fun k => Nat.beq k 3 || Nat.beq k 6) [(1, [2])] ?_
        repeat' (first | refine rl7 ?_ | refine rs7 (fun h => ?_) (fun h => ?_) | fail)
        refine Un 0 (g2.no hy) ?_
        exact ⟨rfl, rfl, rfl⟩
      | false =>
      rw [Cu hy]
      show An _ _ _ (.ret (exP (nd op [p.x, y.x]))) (pxS l y.at')
      refine Af Tryz.func188 rfl rfl (Nat.le_of_ble_eq_true rfl) rfl (Nat.le_refl _) ?_
      repeat' (first | refine rl0 ?_ | refine rs0 (fun h => ?_) (fun h => ?_) | fail)
      refine wb1 0 (Aj hl h) ?_
      repeat' (first | refine rl0 ?_ | refine rs0 (fun h => ?_) (fun h => ?_) | fail)
      refine wb1 0 g1 ?_
      repeat' (first | refine rl0 ?_ | refine rs0 (fun h => ?_) (fun h => ?_) | fail)
      refine wb1 0 (Db h4 hl ho) ?_
      repeat' (first | refine rl2 ?_ | refine rs2 (fun h => ?_) (fun h => ?_) | fail)
      refine b0 (fun k => Nat.beq k 3 || Nat.beq k 6) [(1, [2])] ?_
      repeat' (first | refine rl7 ?_ | refine rs7 (fun h => ?_) (fun h => ?_) | fail)
      refine Z3 0 (g2.ok hy) ?_
      repeat' (first | refine rl7 ?_ | refine rs7 (fun h => ?_) (fun h => ?_) | fail)
      refine P7 (Lj op p.x y.x) ?_
      repeat' (first | refine rl7 ?_ | refine rs7 (fun h => ?_) (fun h => ?_) | fail)
      repeat' (first | refine rl0 ?_ | refine rs0 (fun h => ?_) (fun h => ?_) | fail)
      rfl
end Go.Proofs.YtiledamgmppcmaaGreatDoor
namespace Go.Proofs.YtiledamgmppcmaaGreatDoor
open Go.RowKit
def P5 (l : List TkZ) : Prop := ∀ t ∈ l, t.1 = 3 -> t.2.1.size <= 18 /\ ∃ n, Lib.atoi t.2.1.data.toList = some n
theorem Vb (op : Int) : An 114 [Ai op, .d (.v (.slice none 0 0))] ⟨[], []⟩ (.ret (exP (nd op []))) ⟨[], []⟩ := Lu (D0 op []) (Aa (Ab _) (Aa Bo Ad))
theorem K9 {l : List TkZ} {n : Nat} (hl : l.length <= 9223372036854775806) (hnum : P5 l) (ih : Q6 l n) {a : Nat} (ha : a <= l.length) (hn : 8 * (l.length - a) + 2 <= n + 1) : Gs 189 [.ptr 0 0] l a (pE l (n + 1) 7 a) := by
  rw [pE]
  cases h : Ba l a Ms with
  | true =>
    rw [if_pos rfl]
    have h0 := Bs h
    have g1 : Gs 189 [.ptr 0 0] l (a + 1) (pE l n 7 (a + 1)) := ih 7 (a + 1) (by omega) (by omega) h0 (by simp [A5]; omega)
    generalize pE l n 7 (a + 1) = p at g1 |-
    cases hb : p.bad with
    | true =>
      rw [Bu hb]
      show An _ _ _ (.panic Fv) (pxS l p.at')
      refine A1 Tryz.func189 rfl rfl (Nat.le_of_ble_eq_true rfl) ?_
      repeat' (first | refine rl0 ?_ | refine rs0 (fun h => ?_) (fun h => ?_) | fail)
      refine wb1 0 (As hl h) ?_
      repeat' (first | refine rl0 ?_ | refine rs0 (fun h => ?_) (fun h => ?_) | fail)
      refine Jy 0 (g1.no hb) ?_
      exact ⟨rfl, rfl, rfl⟩
    | false =>
    rw [Cu hb]
    show An _ _ _ (.ret (exP (nd 5 [p.x]))) (pxS l p.at')
    refine Af Tryz.func189 rfl rfl (Nat.le_of_ble_eq_true rfl) rfl (Nat.le_refl _) ?_
    repeat' (first | refine rl0 ?_ | refine rs0 (fun h => ?_) (fun h => ?_) | fail)
    refine wb1 0 (As hl h) ?_
    repeat' (first | refine rl0 ?_ | refine rs0 (fun h => ?_) (fun h => ?_) | fail)
    refine wb1 0 (g1.ok hb) ?_
    repeat' (first | refine rl0 ?_ | refine rs0 (fun h => ?_) (fun h => ?_) | fail)
    refine wp1 (Ox 5 p.x) ?_
    repeat' (first | refine rl0 ?_ | refine rs0 (fun h => ?_) (fun h => ?_) | fail)
    rfl
  | false =>
  rw [if_neg (by simp)]
  cases h2 : Ba l a Oc with
  | true =>
    rw [if_pos rfl]
    show An _ _ _ (.ret (exP (nd 3 []))) (pxS l (a + 1))
    refine Af Tryz.func189 rfl rfl (Nat.le_of_ble_eq_true rfl) rfl (Nat.le_refl _) ?_
    repeat' (first | refine rl0 ?_ | refine rs0 (fun h => ?_) (fun h => ?_) | fail)
    refine wb1 0 (Aj hl h) ?_
    repeat' (first | refine rl0 ?_ | refine rs0 (fun h => ?_) (fun h => ?_) | fail)
    refine wb1 0 (As hl h2) ?_
    repeat' (first | refine rl0 ?_ | refine rs0 (fun h => ?_) (fun h => ?_) | fail)
    refine D3 (Vb 3) rfl rfl rfl rfl rfl (by repeat (first | exact Ad | refine Aa (Ab _) ?_)) ?_
    repeat' (first | refine rl0 ?_ | refine rs0 (fun h => ?_) (fun h => ?_) | fail)
    rfl
  | false =>
  rw [if_neg (by simp)]
  cases h3 : Ba l a Jg with
  | true =>
    rw [if_pos rfl]
    show An _ _ _ (.ret (exP (nd 4 []))) (pxS l (a + 1))
    refine Af Tryz.func189 rfl rfl (Nat.le_of_ble_eq_true rfl) rfl (Nat.le_refl _) ?_
    repeat' (first | refine rl0 ?_ | refine rs0 (fun h => ?_) (fun h => ?_) | fail)
    refine wb1 0 (Aj hl h) ?_
    repeat' (first | refine rl0 ?_ | refine rs0 (fun h => ?_) (fun h => ?_) | fail)
    refine wb1 0 (Aj hl h2) ?_
    repeat' (first | refine rl0 ?_ | refine rs0 (fun h => ?_) (fun h => ?_) | fail)
    refine wb1 0 (As hl h3) ?_
    repeat' (first | refine rl0 ?_ | refine rs0 (fun h => ?_) (fun h => ?_) | fail)
    refine D3 (Vb 4) rfl rfl rfl rfl rfl (by repeat (first | exact Ad | refine Aa (Ab _) ?_)) ?_
    repeat' (first | refine rl0 ?_ | refine rs0 (fun h => ?_) (fun h => ?_) | fail)
    rfl
  | false =>
  rw [if_neg (by simp)]
  cases h4 : Ba l a Ik with
  | true =>
    rw [if_pos rfl]
    have h0 := Bs h4
    have g1 : Gs 71 [.ptr 0 0] l (a + 1) (pE l n 0 (a + 1)) := ih 0 (a + 1) (by omega) (by omega) h0 (by simp [A5]; omega)
    generalize pE l n 0 (a + 1) = p at g1 |-
    cases hb : p.bad with
    | true =>
      rw [Bu hb]
      show An _ _ _ (.panic Fv) (pxS l p.at')
      refine A1 Tryz.func189 rfl rfl (Nat.le_of_ble_eq_true rfl) ?_
      repeat' (first | refine rl0 ?_ | refine rs0 (fun h => ?_) (fun h => ?_) | fail)
      refine wb1 0 (Aj hl h) ?_
      repeat' (first | refine rl0 ?_ | refine rs0 (fun h => ?_) (fun h => ?_) | fail)
      refine wb1 0 (Aj hl h2) ?_
      repeat' (first | refine rl0 ?_ | refine rs0 (fun h => ?_) (fun h => ?_) | fail)
      refine wb1 0 (Aj hl h3) ?_
      repeat' (first | refine rl0 ?_ | refine rs0 (fun h => ?_) (fun h => ?_) | fail)
      refine wb1 0 (As hl h4) ?_
      repeat' (first | refine rl0 ?_ | refine rs0 (fun h => ?_) (fun h => ?_) | fail)
      refine Jy 0 (g1.no hb) ?_
      exact ⟨rfl, rfl, rfl⟩
    | false =>
    rw [Cu hb]
    have g1 := g1.ok hb
    cases h5 : Ba l p.at' Hl with
    | false =>
      rw [E3 h5]
      show An _ _ _ (.panic Fv) (pxS l p.at')
      refine A1 Tryz.func189 rfl rfl (Nat.le_of_ble_eq_true rfl) ?_
      repeat' (first | refine rl0 ?_ | refine rs0 (fun h => ?_) (fun h => ?_) | fail)
      refine wb1 0 (Aj hl h) ?_
      repeat' (first | refine rl0 ?_ | refine rs0 (fun h => ?_) (fun h => ?_) | fail)
      refine wb1 0 (Aj hl h2) ?_
      repeat' (first | refine rl0 ?_ | refine rs0 (fun h => ?_) (fun h => ?_) | fail)
      refine wb1 0 (Aj hl h3) ?_
      repeat' (first | refine rl0 ?_ | refine rs0 (fun h => ?_) (fun h => ?_) | fail)
      refine wb1 0 (As hl h4) ?_
      repeat' (first | refine rl0 ?_ | refine rs0 (fun h => ?_) (fun h => ?_) | fail)
      refine wb1 0 g1 ?_
      repeat' (first | refine rl0 ?_ | refine rs0 (fun h => ?_) (fun h => ?_) | fail)
      refine Jy 0 (Fg hl h5) ?_
      exact ⟨rfl, rfl, rfl⟩
    | true =>
    rw [E4 h5]
    show An _ _ _ (.ret (exP p.x)) (pxS l (p.at' + 1))
    refine Af Tryz.func189 rfl rfl (Nat.le_of_ble_eq_true rfl) rfl (Nat.le_refl _) ?_
    repeat' (first | refine rl0 ?_ | refine rs0 (fun h => ?_) (fun h => ?_) | fail)
    refine wb1 0 (Aj hl h) ?_
    repeat' (first | refine rl0 ?_ | refine rs0 (fun h => ?_) (fun h => ?_) | fail)
    refine wb1 0 (Aj hl h2) ?_
    repeat' (first | refine rl0 ?_ | refine rs0 (fun h => ?_) (fun h => ?_) | fail)
    refine wb1 0 (Aj hl h3) ?_
    repeat' (first | refine rl0 ?_ | refine rs0 (fun h => ?_) (fun h => ?_) | fail)
    refine wb1 0 (As hl h4) ?_
    repeat' (first | refine rl0 ?_ | refine rs0 (fun h => ?_) (fun h => ?_) | fail)
    refine wb1 0 g1 ?_
    repeat' (first | refine rl0 ?_ | refine rs0 (fun h => ?_) (fun h => ?_) | fail)
    refine wb1 0 (C1 hl h5) ?_
    repeat' (first | refine rl0 ?_ | refine rs0 (fun h => ?_) (fun h => ?_) | fail)
    rfl
  | false =>
  rw [if_neg (by simp)]
  unfold Jm
  cases ht : l[a]? with
  | none =>
    have h5 : l.length <= a := List.getElem?_eq_none_iff.1 ht
    show An _ _ _ (.panic Fv) (pxS l a)
    refine A1 Tryz.func189 rfl rfl (Nat.le_of_ble_eq_true rfl) ?_
    repeat' (first | refine rl0 ?_ | refine rs0 (fun h => ?_) (fun h => ?_) | fail)
    refine wb1 0 (Aj hl h) ?_
    repeat' (first | refine rl0 ?_ | refine rs0 (fun h => ?_) (fun h => ?_) | fail)
    refine wb1 0 (Aj hl h2) ?_
    repeat' (first | refine rl0 ?_ | refine rs0 (fun h => ?_) (fun h => ?_) | fail)
    refine wb1 0 (Aj hl h3) ?_
    repeat' (first | refine rl0 ?_ | refine rs0 (fun h => ?_) (fun h => ?_) | fail)
    refine wb1 0 (Aj hl h4) ?_
    repeat' (first | refine rl0 ?_ | refine rs0 (fun h => ?_) (fun h => ?_) | fail)
    . refine Gu rfl (G0 rfl rfl) ?_
      exact ⟨rfl, rfl, rfl⟩
    . exfalso; simp at h; omega
  | some t =>
    have h5 : a < l.length := (List.getElem?_eq_some_iff.1 ht).1
    show Gs _ _ l a (Gf t a)
    unfold Gf
    by_cases e1 : t.1 = 1
    . rw [if_pos e1]
      show An _ _ _ (.ret (exP (.mk 2 0 t.2.1 []))) (pxS l (a + 1))
      refine A4 (r' := .agg [Ai 2, Ai 0, By t.2.1, .d (.v (.slice none 0 0))]) ?_ (by repeat' (first | exact Ad | refine Aa ?_ ?_ | exact Bo | exact Ab _ | refine A9 ?_ | refine Bh ?_))
      refine Af Tryz.func189 rfl rfl (Nat.le_of_ble_eq_true rfl) rfl (Nat.le_refl _) ?_
      repeat' (first | refine rl0 ?_ | refine rs0 (fun h => ?_) (fun h => ?_) | fail)
      refine wb1 0 (Aj hl h) ?_
      repeat' (first | refine rl0 ?_ | refine rs0 (fun h => ?_) (fun h => ?_) | fail)
      refine wb1 0 (Aj hl h2) ?_
      repeat' (first | refine rl0 ?_ | refine rs0 (fun h => ?_) (fun h => ?_) | fail)
      refine wb1 0 (Aj hl h3) ?_
      repeat' (first | refine rl0 ?_ | refine rs0 (fun h => ?_) (fun h => ?_) | fail)
      refine wb1 0 (Aj hl h4) ?_
      repeat' (first | refine rl2 ?_ | refine rs2 (fun h => ?_) (fun h => ?_) | fail)
      refine q9 ?_
      repeat' (first | refine rl2 ?_ | refine rs2 (fun h => ?_) (fun h => ?_) | fail)
      . exfalso; simp at h; omega
      refine b0 (fun k => Nat.beq k 12 || Nat.beq k 13) [(4, [0]), (9, [0])] ?_
      repeat' (first | refine rl7 ?_ | refine rs7 (fun h => ?_) (fun h => ?_) | fail)
      refine Tk _ (B4 ht) (by omega) ?_
      repeat' (first | refine rl7 ?_ | refine rs7 (fun h => ?_) (fun h => ?_) | fail)
      . repeat' (first | refine rl0 ?_ | refine rs0 (fun h => ?_) (fun h => ?_) | fail)
        . rfl
        all_goals (exfalso; simp_all)
    . rw [if_neg e1]
      by_cases e3 : t.1 = 3
      . rw [if_pos e3]
        obtain ⟨hs, k, hk⟩ := hnum t (List.mem_of_getElem? ht) e3
        have hno : Lv t.2.1 = k := by unfold Lv; rw [hk]; rfl
        rw [hno]
        show An _ _ _ (.ret (exP (.mk 1 k ⟨#[]⟩ []))) (pxS l (a + 1))
        refine A4 (r' := .agg [Ai 1, Ai k, By ⟨#[]⟩, .d (.v (.slice none 0 0))]) ?_ (by repeat' (first | exact Ad | refine Aa ?_ ?_ | exact Bo | exact Ab _ | refine A9 ?_ | refine Bh ?_))
        refine Af Tryz.func189 rfl rfl (Nat.le_of_ble_eq_true rfl) rfl (Nat.le_refl _) ?_
        repeat' (first | refine rl0 ?_ | refine rs0 (fun h => ?_) (fun h => ?_) | fail)
        refine wb1 0 (Aj hl h) ?_
        repeat' (first | refine rl0 ?_ | refine rs0 (fun h => ?_) (fun h => ?_) | fail)
        refine wb1 0 (Aj hl h2) ?_
        repeat' (first | refine rl0 ?_ | refine rs0 (fun h => ?_) (fun h => ?_) | fail)
        refine wb1 0 (Aj hl h3) ?_
        repeat' (first | refine rl0 ?_ | refine rs0 (fun h => ?_) (fun h => ?_) | fail)
        refine wb1 0 (Aj hl h4) ?_
        repeat' (first | refine rl2 ?_ | refine rs2 (fun h => ?_) (fun h => ?_) | fail)
        refine q9 ?_
        repeat' (first | refine rl2 ?_ | refine rs2 (fun h => ?_) (fun h => ?_) | fail)
        . exfalso; simp at h; omega
        refine b0 (fun k => Nat.beq k 12 || Nat.beq k 13) [(4, [0]), (9, [0])] ?_
        repeat' (first | refine rl7 ?_ | refine rs7 (fun h => ?_) (fun h => ?_) | fail)
        refine Tk _ (B4 ht) (by omega) ?_
        repeat' (first | refine rl7 ?_ | refine rs7 (fun h => ?_) (fun h => ?_) | fail)
        . repeat' (first | refine rl0 ?_ | refine rs0 (fun h => ?_) (fun h => ?_) | fail)
          . exfalso; simp_all
          . refine wp1 (V4 t.2.1 k hs hk) ?_
            repeat' (first | refine rl0 ?_ | refine rs0 (fun h => ?_) (fun h => ?_) | fail)
            rfl
          . exfalso; simp_all
      . rw [if_neg e3]
        show An _ _ _ (.panic Fv) (pxS l a)
        refine A1 Tryz.func189 rfl rfl (Nat.le_of_ble_eq_true rfl) ?_
        repeat' (first | refine rl0 ?_ | refine rs0 (fun h => ?_) (fun h => ?_) | fail)
        refine wb1 0 (Aj hl h) ?_
        repeat' (first | refine rl0 ?_ | refine rs0 (fun h => ?_) (fun h => ?_) | fail)
        refine wb1 0 (Aj hl h2) ?_
        repeat' (first | refine rl0 ?_ | refine rs0 (fun h => ?_) (fun h => ?_) | fail)
        refine wb1 0 (Aj hl h3) ?_
        repeat' (first | refine rl0 ?_ | refine rs0 (fun h => ?_) (fun h => ?_) | fail)
        refine wb1 0 (Aj hl h4) ?_
        repeat' (first | refine rl2 ?_ | refine rs2 (fun h => ?_) (fun h => ?_) | fail)
        refine q9 ?_
        repeat' (first | refine rl2 ?_ | refine rs2 (fun h => ?_) (fun h => ?_) | fail)
        . exfalso; simp at h; omega
        refine b0 (fun k => Nat.beq k 12 || Nat.beq k 13) [(4, [0]), (9, [0])] ?_
        repeat' (first | refine rl7 ?_ | refine rs7 (fun h => ?_) (fun h => ?_) | fail)
        refine Tk _ (B4 ht) (by omega) ?_
        repeat' (first | refine rl7 ?_ | refine rs7 (fun h => ?_) (fun h => ?_) | fail)
        . repeat' (first | refine rl0 ?_ | refine rs0 (fun h => ?_) (fun h => ?_) | fail)
          . exfalso; simp_all
          . exfalso; simp_all
          . refine Gu rfl (G0 rfl rfl) ?_
            exact ⟨rfl, rfl, rfl⟩
end Go.Proofs.YtiledamgmppcmaaGreatDoor
namespace Go.Proofs.YtiledamgmppcmaaGreatDoor
open Go.RowKit
theorem Vi {l : List TkZ} (hl : l.length <= 9223372036854775806) (hnum : P5 l) : ∀ n, Q6 l n := by
  intro n
  induction n using Nat.strongRecOn with
  | ind n ih =>
    intro m a hm h4 ha hn
    cases n with
    | zero =>
      exfalso
      have : 2 <= A5 m := by unfold A5; split <;> omega
      omega
    | succ n =>
      have ihn := ih n (Nat.lt_succ_self n)
      have hc : m = 0 \/ m = 3 \/ m = 7 \/ m = 1 \/ m = 2 \/ m = 5 \/ m = 6 := by omega
      rcases hc with rfl | rfl | rfl | hm
      . exact Ql hl ihn ha hn
      . exact Vj hl ihn ha hn
      . exact K9 hl hnum ihn ha hn
      . have h := M2 hl (fun k hk => ih k (by omega)) hm ha hn
        have e1 : fnM m = 112 := by rcases hm with rfl | rfl | rfl | rfl <;> rfl
        have e2 : Aia m = [.ptr 0 0, Ai m] := by rcases hm with rfl | rfl | rfl | rfl <;> rfl
        rw [e1, e2]; exact h
theorem K7 {rows : List (List DV)} {a : Int} (h0 : a < 0 \/ (rows.length : Int) < a) : An 29 [.d (.sl 3 rows), Ai a] ⟨[], []⟩ (.ret (.tup [exP .nil, Ai 0, Ai 2])) ⟨[], []⟩ := by
  refine A4 (r' := .tup [.agg D4, Ai 0, Ai 2]) ?_ (by repeat' (first | exact Ad | refine Aa ?_ ?_ | exact Bo | exact Ab _ | refine A9 ?_ | refine Bh ?_))
  refine ⟨enters_of Tryz.func29 rfl rfl, Dm H5 Tryz.func29 rfl (Nat.le_of_ble_eq_true rfl) rfl (Nat.le_refl _) ?_⟩
  refine Av (Bv ?_)
  repeat' (first | refine rl0 ?_ | refine rs0 (fun h => ?_) (fun h => ?_) | fail)
  refine Av (Bv ?_)
  repeat' (first | refine rl0 ?_ | refine rs0 (fun h => ?_) (fun h => ?_) | fail)
  . exact ⟨none, .inl ⟨rfl, .inr rfl⟩, _, rfl, rfl, rfl, .inr rfl, _, B6 rfl, rfl, rfl⟩
  . exact ⟨none, .inl ⟨rfl, .inr rfl⟩, _, rfl, rfl, rfl, .inr rfl, _, B6 rfl, rfl, rfl⟩
  . exfalso; simp_all; omega
theorem K8 {rows : List (List DV)} {a i : Int} (h0 : 0 <= a /\ a <= rows.length) (hi : 0 <= i) (hidx : An 67 [.d (.sl 3 rows), .fn 68 []] ⟨[], []⟩ (.ret (Ai i)) ⟨[], []⟩) : An 29 [.d (.sl 3 rows), Ai a] ⟨[], []⟩ (.ret (.tup [exP .nil, Ai i, Ai 350])) ⟨[], []⟩ := by
  refine A4 (r' := .tup [.agg D4, Ai i, Ai 350]) ?_ (by repeat' (first | exact Ad | refine Aa ?_ ?_ | exact Bo | exact Ab _ | refine A9 ?_ | refine Bh ?_))
  refine ⟨enters_of Tryz.func29 rfl rfl, Dm H5 Tryz.func29 rfl (Nat.le_of_ble_eq_true rfl) rfl (Nat.le_refl _) ?_⟩
  refine Av (Bv ?_)
  repeat' (first | refine rl0 ?_ | refine rs0 (fun h => ?_) (fun h => ?_) | fail)
  refine Av (Bv ?_)
  repeat' (first | refine rl0 ?_ | refine rs0 (fun h => ?_) (fun h => ?_) | fail)
  . exfalso; simp at h; omega
  . exfalso; simp at h; omega
  refine Av (Bv ?_)
  repeat' (first | refine rl0 ?_ | refine rs0 (fun h => ?_) (fun h => ?_) | fail)
  refine D3 hidx rfl rfl rfl rfl rfl (by repeat (first | exact Ad | refine Aa (Ab _) ?_)) ?_
  repeat' (first | refine rl0 ?_ | refine rs0 (fun h => ?_) (fun h => ?_) | fail)
  . exact ⟨none, .inl ⟨rfl, .inr rfl⟩, _, rfl, rfl, rfl, .inr rfl, _, B6 rfl, rfl, rfl⟩
  . exfalso; simp at h; omega
theorem I5 {rows : List (List DV)} {a n : Int} {x : Ex} (h0 : 0 <= a /\ a <= rows.length) (hidx : An 67 [.d (.sl 3 rows), .fn 68 []] ⟨[], []⟩ (.ret (Ai (-1))) ⟨[], []⟩)
    (hx : An 71 [.ptr 0 0] (paK rows a) (.ret (exP x)) (paK rows n)) (hs : x.small) (hc : Bg x ≠ 0) : An 29 [.d (.sl 3 rows), Ai a] ⟨[], []⟩ (.ret (.tup [exP .nil, Ai a, Ai 3])) ⟨[], []⟩ := by
  have hchk := F7 x hs
  refine A4 (r' := .tup [.agg D4, Ai a, Ai 3]) ?_ (by repeat' (first | exact Ad | refine Aa ?_ ?_ | exact Bo | exact Ab _ | refine A9 ?_ | refine Bh ?_))
  refine ⟨enters_of Tryz.func29 rfl rfl, Dm H5 Tryz.func29 rfl (Nat.le_of_ble_eq_true rfl) rfl (Nat.le_refl _) ?_⟩
  refine Av (Bv ?_)
  repeat' (first | refine rl0 ?_ | refine rs0 (fun h => ?_) (fun h => ?_) | fail)
  refine Av (Bv ?_)
  repeat' (first | refine rl0 ?_ | refine rs0 (fun h => ?_) (fun h => ?_) | fail)
  . exfalso; simp at h; omega
  . exfalso; simp at h; omega
  refine Av (Bv ?_)
  repeat' (first | refine rl0 ?_ | refine rs0 (fun h => ?_) (fun h => ?_) | fail)
  refine D3 hidx rfl rfl rfl rfl rfl (by repeat (first | exact Ad | refine Aa (Ab _) ?_)) ?_
  repeat' (first | refine rl0 ?_ | refine rs0 (fun h => ?_) (fun h => ?_) | fail)
  refine Av (Bv ?_)
  repeat' (first | refine rl0 ?_ | refine rs0 (fun h => ?_) (fun h => ?_) | fail)
  refine Av (L7 rfl rfl rfl rfl rfl rfl (by decide) ?_)
  refine Av (Bv ?_)
  repeat' (first | refine rl0 ?_ | refine rs0 (fun h => ?_) (fun h => ?_) | fail)
  refine wcb (id := 3) hx rfl rfl rfl rfl rfl rfl rfl rfl (by repeat (first | exact Ad | refine Aa (Ab _) ?_)) rfl ?_
  repeat' (first | refine rl0 ?_ | refine rs0 (fun h => ?_) (fun h => ?_) | fail)
  refine Av (Bv ?_)
  repeat' (first | refine rl0 ?_ | refine rs0 (fun h => ?_) (fun h => ?_) | fail)
  refine D3 hchk rfl rfl rfl rfl rfl (by repeat (first | exact Ad | refine Aa (Ab _) ?_)) ?_
  repeat' (first | refine rl0 ?_ | refine rs0 (fun h => ?_) (fun h => ?_) | fail)
  . exact ⟨none, .inl ⟨rfl, .inr rfl⟩, ⟨_, Tryz.func70, rfl, rfl⟩, _, Pq _ _ _ _ (.v (.bool true)) _ _ _ _, _, rfl, rfl, rfl, .inr rfl, _, B6 rfl, rfl, rfl⟩
  . exfalso; simp at h; omega
def De (l : List TkZ) (a : Int) : Ex × Int × Int :=
  if a < 0 \/ (l.length : Int) < a then (.nil, 0, 2)
  else if Fr l ≠ -1 then (.nil, Fr l, 350)
  else let p := D1 l a.toNat
    if p.bad = true then (.nil, p.at', 350) else if Bg p.x = 0 then (p.x, p.at', 0) else (.nil, a, 3)
end Go.Proofs.YtiledamgmppcmaaGreatDoor
namespace Go.Proofs.YtiledamgmppcmaaGreatDoor
open Go.RowKit
theorem Cb {op : Int} {l : List Ex} (h : Ih l) : (nd op l).small := ⟨Nat.zero_le _, h⟩
theorem Bk {p : PRes} {f : Ex -> Nat -> PRes} (h : p.x.small) (hf : ∀ x b, x.small -> (f x b).x.small) : (p.go f).x.small := by
  unfold PRes.go
  split
  . exact ⟨Nat.zero_le _, trivial⟩
  . exact hf _ _ h
theorem Di {l : List TkZ} {a : Nat} {s : ByteArray} {f : Nat -> PRes} (hf : ∀ b, (f b).x.small) : (Ct l a s f).x.small := by
  unfold Ct
  split
  . exact hf _
  . exact ⟨Nat.zero_le _, trivial⟩
theorem Da : Ex.nil.small := ⟨Nat.zero_le _, trivial⟩
theorem G1 {l : List TkZ} (hs : ∀ t ∈ l, t.2.1.size <= 9223372036854775807) : ∀ n, (∀ m a, (pE l n m a).x.small) /\ ∀ m x a, x.small -> (pR l n m x a).x.small
  | 0 => ⟨fun m a => by rw [pE]; exact Da, fun m x a _ => by rw [pR]; exact Da⟩
  | n + 1 => by
    obtain ⟨h1, h2⟩ := G1 hs n
    refine ⟨fun m a => ?_, fun m x a hx => ?_⟩
    . by_cases e0 : m = 0
      . subst e0
        rw [pE]
        split
        . exact Bk (h1 _ _) fun x b hx => Di fun b => Bk (h1 _ _) fun y c hy => Di fun c => Bk (h1 _ _) fun z d hz => Cb ⟨hx, hy, hz, trivial⟩
        . exact h1 _ _
      by_cases e3 : m = 3
      . subst e3
        rw [pE]
        split
        . exact Bk (h1 _ _) fun x b hx => Cb ⟨hx, trivial⟩
        . refine Bk (h1 _ _) fun x b hx => ?_
          split
          . exact Bk (h1 _ _) fun y c hy => Cb ⟨hx, hy, trivial⟩
          . exact hx
      by_cases e7 : m = 7
      . subst e7
        rw [pE]
        split
        . exact Bk (h1 _ _) fun x b hx => Cb ⟨hx, trivial⟩
        split
        . exact Cb trivial
        split
        . exact Cb trivial
        split
        . exact Bk (h1 _ _) fun x b hx => Di fun c => hx
        unfold Jm
        split
        . exact Da
        . rename_i t ht
          have := hs t (List.mem_of_getElem? ht)
          unfold Gf
          split
          . exact ⟨this, trivial⟩
          . split
            . exact ⟨Nat.zero_le _, trivial⟩
            . exact Da
      rw [Dz l n m a e0 e3 e7]
      exact Bk (h1 _ _) fun x b hx => h2 _ _ _ hx
    . rw [pR]
      split
      . exact hx
      . exact Bk (h1 _ _) fun y c hy => h2 _ _ _ (Cb ⟨hx, hy, trivial⟩)
theorem Eg {b : UInt8} (h : Bi b = true) : 48 <= b.toNat /\ b.toNat <= 57 := by
  simp only [Bi, Bool.and_eq_true, decide_eq_true_eq] at h
  omega
def O3 (acc : Nat) (l : List UInt8) : Nat := l.foldl (fun n b => n * 10 + (b.toNat - 48)) acc
theorem Kh : ∀ (l : List UInt8) (acc : Nat), l.all Bi = true -> Lib.decFrom acc l = some (O3 acc l)
  | [], acc, _ => rfl
  | b :: r, acc, h => by
    simp only [List.all_cons, Bool.and_eq_true] at h
    obtain ⟨h1, h2⟩ := Eg h.1
    rw [Lib.decFrom, Lib.digitVal, if_pos ⟨h1, h2⟩]
    simp only []
    rw [Kh r _ h.2]; rfl
theorem D7 {l : List UInt8} (h : Bl l = true) : l.length <= 4 /\ l.all Bi = true /\ Lib.atoi l = some ((O3 0 l : Nat) : Int) := by
  simp only [Bl, Bool.and_eq_true, Bool.or_eq_true] at h
  obtain ⟨h1, h2⟩ := h
  have hl : l.length <= 4 /\ l ≠ [] := by
    rcases h2 with h2 | h2
    . have : l = [48] := by simpa using h2
      subst this; simp
    . simp only [decide_eq_true_eq, Bool.not_eq_true'] at h2
      refine ⟨h2.2, fun e => ?_⟩
      subst e; simp at h2
  refine ⟨hl.1, h1, ?_⟩
  cases l with
  | nil => exact absurd rfl hl.2
  | cons b r =>
    have h3 := h1
    simp only [List.all_cons, Bool.and_eq_true] at h3
    obtain ⟨h4, h5⟩ := Eg h3.1
    have e1 : (b == 45) = false := by rw [beq_eq_false_iff_ne]; rintro rfl; simp at h4
    have e2 : (b == 43) = false := by rw [beq_eq_false_iff_ne]; rintro rfl; simp at h4
    simp only [Lib.atoi, e1, e2, Bool.false_eq_true, if_false]
    unfold Lib.decNat
    rw [Kh _ _ h1]; rfl
theorem Ff {l : List TkZ} (h : Fr l = -1) : ∀ t ∈ l, B5 t.1 t.2.1.data.toList t.2.2 = 0 := by
  unfold Fr at h
  cases e : l.findIdx? Xg with
  | some i => rw [e] at h; simp at h
  | none =>
    rw [List.findIdx?_eq_none_iff] at e
    intro t ht
    have := e t ht
    unfold Xg at this
    simpa using this
theorem Iq (l : List TkZ) : Fr l = -1 \/ 0 <= Fr l := by
  unfold Fr
  cases l.findIdx? Xg with
  | none => exact .inl rfl
  | some i => exact .inr (by simp)
theorem Vd {l : List TkZ} (h : Fr l = -1) : P5 l := fun t ht h3 => by
  have h1 := Ff h t ht
  have h2 : Bl t.2.1.data.toList = true := by
    unfold B5 at h1
    split at h1
    . cases h1
    . rename_i hn
      have : Ay t.1 t.2.1.data.toList = true := by
        cases hb : Ay t.1 t.2.1.data.toList with
        | true => rfl
        | false => exact absurd (.inr (.inr hb)) hn
      rw [Ep, if_neg (by omega), if_neg (by omega), if_pos h3] at this
      exact this
  obtain ⟨a1, a2, a3⟩ := D7 h2
  have e : t.2.1.data.toList.length = t.2.1.size := by simp
  exact ⟨by omega, _, a3⟩
theorem M1 (l : List TkZ) (a : Int) (hl : l.length <= 9223372036854775806) (hs : ∀ t ∈ l, t.2.1.size <= 9223372036854775807) : An 29 [Ll l, Ai a] ⟨[], []⟩ (.ret (.tup [exP (De l a).1, Ai (De l a).2.1, Ai (De l a).2.2])) ⟨[], []⟩ := by
  have hlen : (l.map tkR).length = l.length := by simp
  unfold De
  by_cases h0 : a < 0 \/ (l.length : Int) < a
  . rw [if_pos h0]
    exact K7 (by rw [hlen]; exact h0)
  rw [if_neg h0]
  have h0' : 0 <= a /\ a <= (l.map tkR).length := by rw [hlen]; omega
  have hi := Yr l hs
  by_cases h1 : Fr l ≠ -1
  . rw [if_pos h1]
    exact K8 h0' ((Iq l).resolve_left h1) hi
  rw [if_neg h1]
  have h1' : Fr l = -1 := by omega
  rw [h1'] at hi
  obtain ⟨k, rfl⟩ := Int.eq_ofNat_of_zero_le h0'.1
  have hk : k <= l.length := by omega
  have g : Gs 71 [.ptr 0 0] l k (D1 l k) := Vi hl (Vd h1') _ 0 k (by omega) (by omega) hk (by simp [A5])
  have hsm : (D1 l k).x.small := (G1 hs _).1 _ _
  simp only [Int.toNat_natCast]
  cases hb : (D1 l k).bad with
  | true =>
    rw [if_pos rfl]
    exact Pp h0' hi (g.no hb)
  | false =>
    rw [if_neg (by simp)]
    have g := g.ok hb
    by_cases hc : Bg (D1 l k).x = 0
    . rw [if_pos hc]
      exact S9 h0' hi g hsm hc
    . rw [if_neg hc]
      exact I5 h0' hi g hsm hc
end Go.Proofs.YtiledamgmppcmaaGreatDoor
namespace Go.Proofs.YtiledamgmppcmaaGreatDoor
open Go.RowKit
mutual
theorem Hh : ∀ x : Ex, x.same x = true
  | .mk o n s l => by rw [Ex.same]; simp [Hi l]
theorem Hi : ∀ l : List Ex, Ly l l = true
  | [] => rfl
  | x :: l => by rw [Ly, Hh x, Hi l]; rfl
end
end Go.Proofs.YtiledamgmppcmaaGreatDoor
namespace Go.Proofs.YtiledamgmppcmaaGreatDoor
open Go.RowKit
theorem Aef {f : Nat} {k j : Nat} {r : List PV} {out : POut} (h : An f (.d (.sl k []) :: r) ⟨[], []⟩ out ⟨[], []⟩) : An f (.d (.sl j []) :: r) ⟨[], []⟩ out ⟨[], []⟩ := by
  refine Lu h (Aa ?_ (Q9 r))
  intro K w u _ hr
  simp only [Rep, Ef, Dd] at hr |-
  obtain ⟨p, cap, h1, h2, h3, _⟩ := hr
  exact ⟨p, cap, h1, h2, h3, fun h => absurd rfl h⟩
theorem Amm {s : ByteArray} {n e : Int} (h0 : (Cn s.data.toList).2.2 = 0) (hp : An 29 [Aad (Cn s.data.toList).1, Ai 0] ⟨[], []⟩ (.ret (.tup [exP .nil, Ai n, Ai e])) ⟨[], []⟩) :
    An 41 [By s, Ai n, Ai e] ⟨[], []⟩ (.ret (A7 true)) ⟨[], []⟩ := by
  refine Af Tryz.func41 rfl rfl (Nat.le_of_ble_eq_true rfl) rfl (Nat.le_refl _) ?_
  repeat' (first | refine rl0 ?_ | refine rs0 (fun h => ?_) (fun h => ?_) | fail)
  refine D3 (Yz h0 hp) rfl rfl rfl rfl rfl (by repeat (first | exact Ad | refine Aa (Ab _) ?_)) ?_
  repeat' (first | refine rl0 ?_ | refine rs0 (fun h => ?_) (fun h => ?_) | fail)
  all_goals first | rfl | (exfalso; simp at *)
theorem Vf {l : List TkZ} {a : Int} {x : Ex} {n e : Int} (hs : (Nat.ble l.length 1000 && l.all fun t => Nat.ble t.2.1.size 1000) = true) (h : De l a = (x, n, e)) : An 29 [Ll l, Ai a] ⟨[], []⟩ (.ret (.tup [exP x, Ai n, Ai e])) ⟨[], []⟩ := by
  simp only [Bool.and_eq_true, Nat.ble_eq, List.all_eq_true] at hs
  have hp := M1 l a (by omega) fun t ht => by have := hs.2 t ht; omega
  rw [h] at hp
  exact hp
theorem Sw {s : ByteArray} (l : List TkZ) {n e : Int} (h0 : (Cn s.data.toList).2.2 = 0) (hl : (Cn s.data.toList).1.map Mt = l) (hs : (Nat.ble l.length 1000 && l.all fun t => Nat.ble t.2.1.size 1000) = true) (h : De l 0 = (.nil, n, e)) : An 41 [By s, Ai n, Ai e] ⟨[], []⟩ (.ret (A7 true)) ⟨[], []⟩ := by
  refine Amm h0 ?_
  rw [Lh, hl]
  exact Vf hs h
theorem Acq {s : ByteArray} (l : List TkZ) {x : Ex} {n : Int} (h0 : (Cn s.data.toList).2.2 = 0) (hl : (Cn s.data.toList).1.map Mt = l) (hs : (Nat.ble l.length 1000 && l.all fun t => Nat.ble t.2.1.size 1000) = true) (h : De l 0 = (x, n, 0)) : An 36 [By s, exP x, Ai n] ⟨[], []⟩ (.ret (A7 true)) ⟨[], []⟩ := by
  refine Acp h0 ?_ (Hh x)
  rw [Lh, hl]
  exact Vf hs h
theorem Qa {x : Ex} {n : Int} (hs : Vp x = true) (h : Bg x = n) : An 18 [exP x] ⟨[], []⟩ (.ret (Ai n)) ⟨[], []⟩ := h ▸ F7 x (Dy hs)
def badX : List Ex := [.mk 0 0 ⟨#[]⟩ [], .mk 20 0 ⟨#[]⟩ [], .mk 1 (-1) ⟨#[]⟩ [], .mk 1 10000 ⟨#[]⟩ [], .mk 3 1 ⟨#[]⟩ [], .mk 2 0 ⟨#[]⟩ [], .mk 2 0 ⟨#[109, 105, 110]⟩ [], .mk 2 0 ⟨#[88]⟩ [], .mk 1 0 ⟨#[120]⟩ [], nd 5 [], nd 7 [e1], nd 7 [e1, .mk 0 0 ⟨#[]⟩ []]]
def Aip (x : Ex) : List Nf := [
  (14, [exP x], .ret (.tup [D8 [], Ai 350])), (22, [exP x, D8 []], .ret (.tup [Ai 0, Ai 350])), (16, [exP x], .ret (.tup [By ⟨#[]⟩, Ai 350])),
  (33, [exP x, D8 [⟨#[120]⟩, ⟨#[120]⟩], Fj []], .ret (.tup [vlP 0 ⟨#[]⟩ false, Ai 350])), (18, [exP x], .ret (Ai 350))]
theorem Ami {x : Ex} (hs : Vp x = true) (hc : Bg x = 350) : ∀ e ∈ Aip x, Nf.holds e := by
  have h0 : Bg x ≠ 0 := by omega
  have hev := eval_bad x [⟨#[120]⟩, ⟨#[120]⟩] [] (Dy hs) h0
  rw [hc] at hev
  exact A0 (nm_of hs (if_neg h0)) (A0 (Ao3 hs (if_pos h0)) (A0 (by
    have := Vh x (Dy hs)
    rw [show Vv x = (⟨#[]⟩, 350) from if_neg h0] at this
    exact this) (A0 hev (A0 (Qa hs hc) Yl))))
theorem badX_ok : ∀ e ∈ badX.flatMap Aip, Nf.holds e := by
  have h : badX.all (fun x => Vp x && decide (Bg x = 350)) = true := by decide +kernel
  intro e he
  obtain ⟨x, hx, he⟩ := List.mem_flatMap.1 he
  have := List.all_eq_true.1 h x hx
  simp only [Bool.and_eq_true, decide_eq_true_eq] at this
  exact Ami this.1 this.2 e he
def tallN : Nat -> Ex
  | 0 => e1
  | n + 1 => nd 5 [tallN n]
def Aer : Nat -> Ex
  | 0 => e1
  | n + 1 => nd 9 [Aer n, Aer n]
def kx9 : Ex := .mk 1 9999 ⟨#[]⟩ []
def kf4 : Ex := nd 7 [Aer 4, nd 19 [eT, Aer 3, nd 7 [Aer 2, kx9]]]
def ks1 : ByteArray := ⟨#[105, 102, 32, 116, 114, 117, 101, 32, 116, 104, 101, 110, 32, 49]⟩
def ks2 : ByteArray := ⟨#[49, 32, 43]⟩
def ks3 : ByteArray := ⟨#[110, 111, 116]⟩
def ks4 : ByteArray := ⟨#[40, 32, 49, 32, 60, 32, 50, 32, 60, 32, 51, 32, 41]⟩
def ks5 : ByteArray := ⟨#[]⟩
def ks6 : ByteArray := ⟨#[45, 32, 45, 32, 45, 32, 45, 32, 45, 32, 45, 32, 45, 32, 45, 32, 45, 32, 45, 32, 45, 32, 45, 32, 49]⟩
def ks7 : ByteArray := ⟨#[116, 114, 117, 101, 32, 61, 32, 102, 97, 108, 115, 101, 32, 111, 114, 32, 49]⟩
def ks8 : ByteArray := ⟨#[45, 32, 49, 32, 42, 32, 50]⟩
def ks9 : ByteArray := ⟨#[105, 102, 32, 49, 32, 116, 104, 101, 110, 32, 49, 32, 101, 108, 115, 101, 32, 49, 32, 111, 114, 32, 116, 114, 117, 101]⟩
theorem rvk : runV [⟨#[]⟩, ⟨#[120]⟩] [0, -9999] eX = some (.ret (.agg (resC true [9999] false [1] false)), ⟨[], []⟩) := by kernel_rfl
theorem txk : Agt Tryz.prog orcE (fun _ => false) 1000 77 [.agg [A7 true, O2 [9999], A7 false, O2 [1]]] ⟨[], []⟩ = some (.ret (By ⟨#[45, 57, 57, 57, 57]⟩), ⟨[], []⟩) := by kernel_rfl
def Amj : List Nf := [
  (24, [], .ret (A7 true)),
  (18, [exP (tallN 11)], .ret (Ai 0)), (18, [exP (tallN 12)], .ret (Ai 350)), (18, [exP (Aer 5)], .ret (Ai 350)), (18, [exP (nd 19 [eT, Aer 5, e1])], .ret (Ai 350)), (18, [exP (Aer 4)], .ret (Ai 0)), (18, [exP kf4], .ret (Ai 0)),
  (33, [exP e1, D8 [⟨#[120]⟩], Fj []], .ret (.tup [vlP 0 ⟨#[]⟩ false, Ai 2])), (33, [exP eY, D8 [⟨#[120]⟩], Fj [10000]], .ret (.tup [vlP 0 ⟨#[]⟩ false, Ai 2])),
  (33, [exP eY, D8 [⟨#[120]⟩], Fj [-9999]], .ret (.tup [vlP 0 ⟨#[]⟩ false, Ai 351])), (33, [exP (nd 17 [e1, eT]), D8 [], Fj []], .ret (.tup [vlP 0 ⟨#[]⟩ false, Ai 351])),
  (33, [exP eX, D8 [⟨#[]⟩, ⟨#[120]⟩], Fj [0, -9999]], .ret (.tup [vlP 1 ⟨#[45, 57, 57, 57, 57]⟩ false, Ai 0])),
  (29, [.d (.sl 1 []), Ai 0], .ret (.tup [exP .nil, Ai 0, Ai 350])), (29, [.d (.sl 1 []), Ai 1], .ret (.tup [exP .nil, Ai 0, Ai 2])),
  (29, [Ll [(3, ⟨#[49]⟩, 0), (1, ⟨#[109, 105, 110]⟩, 0)], Ai 0], .ret (.tup [exP .nil, Ai 1, Ai 350])),
  (41, [By ks1, Ai 4, Ai 350], .ret (A7 true)), (41, [By ks2, Ai 2, Ai 350], .ret (A7 true)), (41, [By ks3, Ai 1, Ai 350], .ret (A7 true)), (41, [By ks4, Ai 4, Ai 350], .ret (A7 true)),
  (41, [By ks5, Ai 0, Ai 350], .ret (A7 true)), (41, [By ks6, Ai 0, Ai 3], .ret (A7 true)),
  (36, [By ks7, exP (nd 18 [nd 11 [eT, eF], e1]), Ai 5], .ret (A7 true)), (36, [By ks8, exP (nd 9 [nd 5 [e1], e2]), Ai 4], .ret (A7 true)), (36, [By ks9, exP (nd 19 [e1, e1, nd 18 [e1, eT]]), Ai 8], .ret (A7 true)),
  (42, [Ai 7], .ret (By ⟨#[55]⟩))]
theorem Amk : ∀ e ∈ Amj, Nf.holds e :=
  A0 Tj
  (A0 (Qa (by decide +kernel) (by decide +kernel)) (A0 (Qa (by decide +kernel) (by decide +kernel)) (A0 (Qa (by decide +kernel) (by decide +kernel)) (A0 (Qa (by decide +kernel) (by decide +kernel)) (A0 (Qa (by decide +kernel) (by decide +kernel)) (A0 (Qa (by decide +kernel) (by decide +kernel))
  (A0 (Yh _ _ _ (Dy (by decide +kernel)) (by decide +kernel) (.inl (by decide))) (A0 (Yh _ _ _ (Dy (by decide +kernel)) (by decide +kernel) (.inr (by decide +kernel)))
  (A0 (Aeh _ _ _ (Dy (by decide +kernel)) (by decide +kernel) rfl (by decide +kernel) (by decide +kernel)) (A0 (Aeh _ _ _ (Dy (by decide +kernel)) (by decide +kernel) rfl (by decide +kernel) (by decide +kernel))
  (A0 (Ain _ _ _ (Dy (by decide +kernel)) (by decide +kernel) rfl (by decide +kernel) (by decide +kernel) _ _ _ _ _ _ (Acx rvk) (Og Ahe txk))
  (A0 (Aef (Vf (l := []) (by decide +kernel) (by kernel_rfl))) (A0 (Aef (Vf (l := []) (by decide +kernel) (by kernel_rfl))) (A0 (Vf (by decide +kernel) (by kernel_rfl))
  (A0 (Sw [(2, ⟨#[105, 102]⟩, 0), (2, ⟨#[116, 114, 117, 101]⟩, 3), (2, ⟨#[116, 104, 101, 110]⟩, 8), (3, ⟨#[49]⟩, 13)] (by decide +kernel) (by decide +kernel) (by decide +kernel) (by kernel_rfl))
  (A0 (Sw ((Cn ks2.data.toList).1.map Mt) (by decide +kernel) rfl (by decide +kernel) (by kernel_rfl)) (A0 (Sw ((Cn ks3.data.toList).1.map Mt) (by decide +kernel) rfl (by decide +kernel) (by kernel_rfl)) (A0 (Sw ((Cn ks4.data.toList).1.map Mt) (by decide +kernel) rfl (by decide +kernel) (by kernel_rfl))
  (A0 (Sw ((Cn ks5.data.toList).1.map Mt) (by decide +kernel) rfl (by decide +kernel) (by kernel_rfl)) (A0 (Sw ((Cn ks6.data.toList).1.map Mt) (by decide +kernel) rfl (by decide +kernel) (by kernel_rfl))
  (A0 (Acq ((Cn ks7.data.toList).1.map Mt) (by decide +kernel) rfl (by decide +kernel) (by kernel_rfl)) (A0 (Acq ((Cn ks8.data.toList).1.map Mt) (by decide +kernel) rfl (by decide +kernel) (by kernel_rfl)) (A0 (Acq ((Cn ks9.data.toList).1.map Mt) (by decide +kernel) rfl (by decide +kernel) (by kernel_rfl))
  (A0 (show An 42 [Ai 7] ⟨[], []⟩ (.ret (By ⟨#[55]⟩)) ⟨[], []⟩ by
    have e : By (Mr ((7 : Nat) : Int)) = By ⟨#[55]⟩ := by kernel_rfl
    exact e ▸ Pr 7 (by decide)) Yl))))))))))))))))))))))))
theorem Aj8 : ∀ e ∈ Amj ++ badX.flatMap Aip, Nf.holds e := fun e he => (List.mem_append.1 he).elim (Amk e) (badX_ok e)
theorem Amx : Agt Tryz.prog (orcT (Amj ++ badX.flatMap Aip)) (fun _ => false) 2000 11 [] ⟨[], []⟩ = some (.ret (A7 true), ⟨[], []⟩) := by kernel_rfl
theorem Akb : An 11 [] ⟨[], []⟩ (.ret (A7 true)) ⟨[], []⟩ := Og (Anw Aj8) Amx
end Go.Proofs.YtiledamgmppcmaaGreatDoor
namespace Go.Proofs.YtiledamgmppcmaaGreatDoor.exprKnown
open Go.ChangeShapes Go.WideShapes Go.ChangeAt Go.RowKit Go.Joins
set_option linter.unusedVariables false
theorem own : ownKnob Tryz.prog.godebug = none := by kernel_rfl
theorem laidOut : laidOutB Tryz.prog = true := by kernel_rfl
set_option maxRecDepth 100000 in
theorem lifted (os : Os) (started : os.Started) (H : Type) (enc : TypeId × Value -> H) :
    ReturnsInHanded {} Tryz.checked os 11 .any (fun w args => (Rows.exprKnownSpec.pre enc Tryz.prog Tryz.f11 Rows.exprKnownRow.domain false w args /\ laidMetH Tryz.prog Rows.exprKnownRow.laid w) /\ sizedMet enc Tryz.prog Tryz.f11 (OpenSpec.ofChange Rows.exprKnownSpec) false w args)
      (Rows.exprKnownSpec.post enc Tryz.prog Tryz.f11 false true false false) := by
  refine returnsInHanded_of_change_and (C := Tryz.checked) (X := fun w _ => laidMetH Tryz.prog Rows.exprKnownRow.laid w) (fun _ _ _ hh h => h.of_heap hh) own started (by kernel_rfl) Tryz.func11
    (ChangeSpec.witness_shaped (enc := enc) (C := Tryz.checked) (os := os) (X := fun w _ => laidMetH Tryz.prog Rows.exprKnownRow.laid w) false (World.laidAll Tryz.prog os Rows.exprKnownRow.laid)
      #[] 8 (World.laidAll_os _ _ _)
      (World.shaped_of_ZipB (by kernel_rfl) (by kernel_rfl)) (by kernel_rfl) (by kernel_rfl) (by kernel_rfl)
      (by rw [MakeChecks.laidMetH_plain _ _ _ (by kernel_rfl)]; exact laidMet_laidAll _ (by kernel_rfl) (by kernel_rfl))) ?_
  intro W base args ds gs before hval0 hW hcnd _ hL _
  have hval : ∀ (j : Nat) t v, Tryz.f11.params[j]? = some t -> args[j]? = some v -> Value.okWide Tryz.prog W .any base t v := hval0
  have hW' := hW
  obtain ⟨p, q, hA0, hV, rfl, hfz, hnd⟩ := hW
  have hA : DataW.TrodAll enc Tryz.prog W 0 (fun _ => true) true Tryz.f11.params.toList args.toList ds p := hA0
  rw [Tryz.params11] at hA hval
  obtain ⟨rfl, rfl, rfl⟩ := trodAll_none hA
  obtain ⟨rfl, rfl⟩ := trodVars_none hV
  rw [MakeChecks.laidMetH_plain _ _ _ (by kernel_rfl)] at hL
  have hfr := Pc hL ⟨_, _, .tail _ (.tail _ (.head _)), by kernel_rfl, by kernel_rfl⟩
  clear hA0 hval0
  refine (Pk (vs := []) (Akb) hfr rfl).mono fun e W' ⟨he, bel⟩ => ?_
  subst he
  exact ⟨_, rfl, _, _, _, [], _, [], hW', trodAll_mk1 (shut_bool Tryz.underlying4 _), trodAll_mk0, rfl, bel.frame _, fun h => by cases h⟩
end Go.Proofs.YtiledamgmppcmaaGreatDoor.exprKnown
