/- A part of the proofs of some statements of this chapter: texts of these claims, merged. -/
import Derived.Below
import Derived.WalkKit
import Derived.BigQuiet
import Derived.Lib.Hide
import Derived.ControlIn
import Derived.OwnWalkIn
import Derived.Lib.ItoaNum
import Derived.OrdersIn
import Derived.TacticsIn
import Derived.Deep.MidRow
import Derived.OpenShut
import Derived.Lib.SmallJoins
import Derived.Laws.Tables
import Derived.Laws.OwnMore
import Derived.Orders
import Derived.Test.YtjagmmmcibdibaaGreatDoorProg
import Derived.Shelf.Abstract
import Derived.Test.YtjagmmmcibdibaaGreatDoorRows
import Derived.Carry
import Derived.Lib.LaidU8
import Derived.Lib.LaidTab
import Derived.Lay
import Derived.MakeChecks
import Derived.RangeFuncLeaves
import Derived.RangeFuncOwn
import Derived.RecoverIn
import Derived.Laws.MakeOwn
import Derived.Laws.Strings
import Derived.WalkSpells
import Derived.WalkLawsBesides
import Derived.Laws.EntriesVeiled
import Derived.Deep.RegionHeld3
import Derived.Deep.QuietTactic
import Derived.Lib.Bytealg
import Derived.Shelf.Strings.Builder1
import Derived.Shelf.Small.Strs
import Derived.Shelf.Small.Wraps
import Derived.Shelf.Strings.BuilderF
import Derived.Shelf.Strings.BuilderK
import Derived.Shelf.Strconv.Atoi
import Derived.Shelf.Strconv.Itoa0
import Derived.Shelf.Strconv.Itoa1
import Derived.Shelf.LaysM
import Derived.Shelf.Strconv.Itoa2
import Derived.Shelf.Strconv.Itoa3
import Derived.Shelf.Strconv.AtoiErrFast
import Derived.Shelf.Strconv.ParseIntEmpty
import Derived.Shelf.Strconv.AtoiFail
import Derived.Shelf.Strconv.Clone
import Derived.Shelf.Strconv.SyntaxError
import Derived.Shelf.LaysC
import Derived.Shelf.Strconv.ToError
import Derived.Shelf.Strconv.AtoiErr
import Derived.Shelf.Strconv.ErrVar
import Derived.Shelf.Strconv.Lower
import Derived.Shelf.Strconv.ParseUint10
import Derived.Shelf.Strconv.ParseUint10Empty
import Derived.Shelf.Strconv.ParseUint10Any
import Derived.Shelf.Strconv.ParseInt10
import Derived.Shelf.Strconv.AtoiLong
import Derived.Shelf.Strconv.AtoiInnerAll
import Derived.Shelf.Strconv.RangeError
import Derived.Shelf.Strconv.ToErrorRange
import Derived.Shelf.Strconv.AtoiAll
import Derived.Shelf.Strconv.ErrVarAll
import Derived.Shelf.Strconv.ParseUintEmpty
import Derived.Shelf.Strconv.ParseUint10b64
import Derived.Shelf.Strconv.ParseUint10b32
import Derived.Shelf.Strconv.ParseUint10b16
import Derived.Shelf.Strconv.ParseUint10b8
import Derived.Shelf.Strconv.ParseUint10At
import Derived.Ground.MpProg
import Derived.Shelf.Pu.ParseUintPublic10
import Derived.Shelf.Pu.ErrVarParseUint
import Derived.Shelf.Strings.Search1
import Derived.Shelf.Strings.Search2
import Derived.Shelf.Strings.Cut
import Derived.Shelf.Strings.Shaped
import Derived.Shelf.Strings.Prefix
import Derived.Shelf.Strings.BuilderCap
import Derived.Shelf.Slices.Turned
import Derived.Ground.Names2Prog
import Derived.Shelf.Slices.SearchI
import Derived.Deep.DeepCutAuto
import Derived.Lib.IndexBytes
import Derived.Deep.LoopGhost
import Derived.StillTail
import Derived.BigRegion
import Derived.Deep.CutBlock
import Derived.RangeFuncBox
import Derived.RangeFuncCalls
import Derived.TacticsInMore
import Derived.LoopNIn
import Derived.LoopIn
import Derived.RangeFuncNested
import Derived.Maps.AppendAt
import Derived.Shelf.RegionOpen
import Derived.Laws.StructEq
import Derived.Lib.Join
import Derived.Deep.AppendLies
import Derived.Deep.RegionLaw
import Derived.Laws.Rows
import Derived.Lib.AppendStr
import Derived.Laws.BytesArg
import Derived.Scope
import Derived.Laws.IdiomStrings
import Derived.Test.YtjagmmmcibdibaaGreatDoorZI4
set_option linter.unusedVariables false
set_option linter.unusedSimpArgs false
set_option linter.unusedSectionVars false
set_option linter.all false
namespace Go.Proofs.YtjagmmmcibdibaaGreatDoor
open Go.RowKit
def Ix (vars:List ByteArray) (vals:List Int) (i:Nat):Bool := !Ji (vars.take i) (vars.getD i ⟨#[]⟩)&&decide (-9999<=vals.getD i 0)&&decide (vals.getD i 0<=9999)
def Gd (vars:List ByteArray) (vals:List Int):Bool:=(List.range vars.length).all (Ix vars vals)
theorem Ac7 {p:Nat->Bool} {n:Nat} (h:(List.range n).all p=true) (hn:p n=true):(List.range (n+1)).all p=true:=by
 rw [List.range_succ,List.all_append,h];simp [hn]
theorem Ml {p:Nat->Bool} {n i:Nat} (hi:i<n) (h:p i=false):(List.range n).all p=false:=by
 rw [List.all_eq_false];exact ⟨i,List.mem_range.2 hi,by rw [h];simp⟩
theorem strE_get {l:List ByteArray} {i:Nat} (h:i<l.length):(l.map strE)[((i:Nat):Int).toNat]? = some (strE (l.getD i ⟨#[]⟩)):=by
 rw [Int.toNat_natCast,List.getElem?_map,List.getD_eq_getElem?_getD,List.getElem?_eq_getElem h];rfl
theorem R7 {l:List Int} {i:Nat} (h:i<l.length):(l.map fun n=>[DV.v (.int .i64 n)])[((i:Nat):Int).toNat]? = some [DV.v (.int .i64 (l.getD i 0))]:=by
 rw [Int.toNat_natCast,List.getElem?_map,List.getD_eq_getElem?_getD,List.getElem?_eq_getElem h];rfl
theorem coe_eq {S:PS} {p q:PV} (h:p=q):Coe S p q:=h▸Ac _
@[reducible] def Ady (vars:List ByteArray) (vals:List Int):PV := .agg [Db vars,Cu vals]
theorem I2 (vars:List ByteArray) (vals:List Int) (hl:vars.length=vals.length):Am 26 [Ady vars vals] ⟨[],[]⟩ (.ret (An (Gd vars vals))) ⟨[],[]⟩:=by
 refine Er Tryz.func26 rfl rfl (Nat.le_of_ble_eq_true rfl) rfl (Nat.le_refl _) ?_
 intro hf
 have hlen:vars.length<=9223372036854775807:=by have:=hf.1.1;simpa [fitP] using this
 repeat' (first|refine rl0 ?_|refine rs0 ?_ ?_<;>intro h|fail)
 refine B3 (ι := Nat) (ok:=fun i=>i<=vars.length/\(List.range i).all (Ix vars vals)=true) (L:=fun i=>[(1,.ptr 0 0),(6,Db vars),(7,Ah (vars.map strE).length),(8,Ah i)]) (Sx:=fun _=>⟨[[Db vars,Cu vals]],[]⟩) (μ := fun i=>vars.length-i) 0 ⟨Nat.zero_le _,rfl⟩ (by repeat (first|exact Ag|refine Aa rfl ?_)) rfl ?_
 rintro i ⟨hi,hm⟩
 repeat' (first|refine rl0 ?_|refine rs0 ?_ ?_<;>intro h|fail)
 ·have hlt:i<vars.length:=by simpa using h
  refine wix _ rfl rfl rfl rfl rfl (strE_get hlt) (by omega) ?_
  repeat' (first|refine rl0 ?_|refine rs0 ?_ ?_<;>intro h|fail)
  refine wst rfl rfl ⟨by omega,by omega,by simp;omega⟩ ?_
  repeat' (first|refine rl0 ?_|refine rs0 ?_ ?_<;>intro h|fail)
  have e:((vars.map strE).take ((i:Int)).toNat).drop (0:Int).toNat=(vars.take i).map strE:=by simp [List.map_take]
  refine E2 (Kd (vars.take i) (vars.getD i ⟨#[]⟩)) rfl rfl rfl rfl rfl (Ab (coe_eq (congrArg (fun z=>PV.d (DV.sl 1 z)) e)) (by repeat (first|exact Ae|refine Ab (Ac _) ?_))) ?_
  repeat' (first|refine rl0 ?_|refine rs0 ?_ ?_<;>intro h|fail)
  ·rw [show Gd vars vals=false from Ml hlt (by unfold Ix;rw [h];rfl)]
  have hm2:=h
  refine wix _ rfl rfl rfl rfl rfl (R7 (l:=vals) (by omega)) (by omega) ?_
  repeat' (first|refine rl0 ?_|refine rs0 ?_ ?_<;>intro h|fail)
  ·rw [show Gd vars vals=false from Ml hlt (by unfold Ix;rw [show decide (-9999<=vals.getD i 0)=false by simp at h |-;omega];simp)]
  have hm3:=h
  refine wix _ rfl rfl rfl rfl rfl (R7 (l:=vals) (by omega)) (by omega) ?_
  repeat' (first|refine rl0 ?_|refine rs0 ?_ ?_<;>intro h|fail)
  ·rw [show Gd vars vals=false from Ml hlt (by unfold Ix;rw [show decide (vals.getD i 0<=9999)=false by simp at h |-;omega];simp)]
  ·refine ⟨i+1,⟨by omega,Ac7 hm ?_⟩,by omega,(by repeat (first|exact Ag|refine Aa rfl ?_)),rfl⟩
   unfold Ix
   rw [hm2]
   simp at hm3 h |-
   omega
 ·obtain rfl:i=vars.length:=by simp at h;omega
  rw [show Gd vars vals=true from hm]
def divV:Value := .iface 70 (.agg #[])
theorem Xy (w:World):(Instr.typeAssert .nilIface 20 70 true).run Tryz.prog w = .ok (.tuple #[.agg #[],.bool false]) w:=by kernel_rfl
theorem Xx (w:World):(Instr.typeAssert divV 20 70 true).run Tryz.prog w = .ok (.tuple #[.agg #[],.bool true]) w:=by kernel_rfl
@[reducible] def vlP (t:Int) (s:ByteArray) (y:Bool):PV := .agg [Ah t,Bf s,An y]
@[reducible] def resC (na:Bool) (n:List Int) (nb:Bool) (d:List Int) (y:Bool):List PV:=[An na,B1 n,An nb,B1 d,An y]
@[reducible] def evS (x:Ex) (vc:List PV) (er:PV) (vars:List ByteArray) (vals:List Int):PS:=⟨[(exP x).parts,vc,[er],[Db vars,Cu vals]],[]⟩
@[reducible] def evS1 (x:Ex) (vc:List PV) (er:PV) (vars:List ByteArray) (vals:List Int) (r:List PV):PS:=⟨[(exP x).parts,vc,[er],[Db vars,Cu vals],r],[]⟩
theorem U4 (x:Ex) (c0 c1 c2 er:DV) (vars:List ByteArray) (vals:List Int) (na nb y:Bool) (n d:List Int):EvD Tryz.prog 28 [.ptr 1 0,.ptr 2 0] (evS1 x [.d c0,.d c1,.d c2] (.d er) vars vals (resC na n nb d y)) none (evS1 x [.d c0,.d c1,.d c2] (.d er) vars vals (resC na n nb d y)):=by
 refine Nt Tryz.func28 rfl rfl (fun _ _=>rfl) rfl (Nat.le_of_ble_eq_true rfl) (by simp) rfl (Nat.le_refl _) ?_
 refine D8 rfl (Lg rfl rfl Xy (by kernel_rfl)) ?_
 repeat' (first|refine rl0 ?_|refine rs0 ?_ ?_<;>intro h|fail)
 rfl
theorem edef_div (x:Ex) (c0 c1 c2 er:DV) (vars:List ByteArray) (vals:List Int):EvD Tryz.prog 28 [.ptr 1 0,.ptr 2 0] (evS x [.d c0,.d c1,.d c2] (.d er) vars vals) (some divV) (evS x [Ah 0,Bf ⟨#[]⟩,An false] (Ah 2) vars vals):=by
 refine Nt Tryz.func28 rfl rfl (fun _ _=>rfl) rfl (Nat.le_of_ble_eq_true rfl) (fun c e=>by cases e;rfl) rfl (Nat.le_refl _) ?_
 refine D8 rfl (Lg rfl rfl Xx (by kernel_rfl)) ?_
 repeat' (first|refine rl0 ?_|refine rs0 ?_ ?_<;>intro h|fail)
 rfl
theorem eval_bad (x:Ex) (vars:List ByteArray) (vals:List Int) (hs:x.small) (hc:Bm x≠0):Am 10 [exP x,Db vars,Cu vals] ⟨[],[]⟩ (.ret (.tup [vlP 0 ⟨#[]⟩ false,Ah (Bm x)])) ⟨[],[]⟩:=by
 have hchk:=Eb x hs
 refine ⟨enters_of Tryz.func10 rfl rfl,Dz J3 Tryz.func10 rfl (Nat.le_of_ble_eq_true rfl) rfl (Nat.le_refl _) ?_⟩
 refine Ap (Bb ?_)
 repeat' (first|refine rl0 ?_|refine rs0 ?_ ?_<;>intro h|fail)
 refine Ap (Bb ?_)
 repeat' (first|refine rl0 ?_|refine rs0 ?_ ?_<;>intro h|fail)
 refine E2 hchk rfl rfl rfl rfl rfl (by repeat (first|exact Ae|refine Ab (Ac _) ?_)) ?_
 repeat' (first|refine rl0 ?_|refine rs0 ?_ ?_<;>intro h|fail)
 ·exact ⟨none,.inl ⟨rfl,.inr rfl⟩,_,rfl,rfl,rfl,.inr rfl,_,Bt rfl,rfl,rfl⟩
 ·exfalso;simp at h;omega
theorem U5 (x:Ex) (vars:List ByteArray) (vals:List Int) (hs:x.small) (hc:Bm x=0) (h0:vars.length≠vals.length\/Gd vars vals=false):Am 10 [exP x,Db vars,Cu vals] ⟨[],[]⟩ (.ret (.tup [vlP 0 ⟨#[]⟩ false,Ah 2])) ⟨[],[]⟩:=by
 have hchk:=Eb x hs
 rw [hc] at hchk
 refine ⟨enters_of Tryz.func10 rfl rfl,Dz J3 Tryz.func10 rfl (Nat.le_of_ble_eq_true rfl) rfl (Nat.le_refl _) ?_⟩
 refine Ap (Bb ?_)
 repeat' (first|refine rl0 ?_|refine rs0 ?_ ?_<;>intro h|fail)
 refine Ap (Bb ?_)
 repeat' (first|refine rl0 ?_|refine rs0 ?_ ?_<;>intro h|fail)
 refine E2 hchk rfl rfl rfl rfl rfl (by repeat (first|exact Ae|refine Ab (Ac _) ?_)) ?_
 repeat' (first|refine rl0 ?_|refine rs0 ?_ ?_<;>intro h|fail)
 refine Ap (Bb ?_)
 repeat' (first|refine rl0 ?_|refine rs0 ?_ ?_<;>intro h|fail)
 refine Ap (Bb ?_)
 repeat' (first|refine rl0 ?_|refine rs0 ?_ ?_<;>intro h|fail)
 ·exact ⟨none,.inl ⟨rfl,.inr rfl⟩,_,rfl,rfl,rfl,.inr rfl,_,Bt rfl,rfl,rfl⟩
 have hl:vars.length=vals.length:=by simp at h;omega
 rcases h0 with h0|h0
 ·exact absurd hl h0
 have hr:=I2 vars vals hl
 rw [h0] at hr
 refine E2 hr rfl rfl rfl rfl rfl (by repeat (first|exact Ae|refine Ab (Ac _) ?_)) ?_
 repeat' (first|refine rl0 ?_|refine rs0 ?_ ?_<;>intro h|fail)
 exact ⟨none,.inl ⟨rfl,.inr rfl⟩,_,rfl,rfl,rfl,.inr rfl,_,Bt rfl,rfl,rfl⟩
theorem Ry {x:Ex} (h:Bm x=0):x.fits=true:=Ty x 60 1 ((Ez x).1 h)
theorem Afk (x:Ex) (vars:List ByteArray) (vals:List Int) (hs:x.small) (hc:Bm x=0) (hl:vars.length=vals.length) (h0:Gd vars vals=true) (hk:A9 vars x=0):Am 10 [exP x,Db vars,Cu vals] ⟨[],[]⟩ (.ret (.tup [vlP 0 ⟨#[]⟩ false,Ah 351])) ⟨[],[]⟩:=by
 have hchk:=Eb x hs
 have ht:=L2 vars _ x (Nat.le_refl _) (Ry hc)
 rw [hk] at ht
 rw [hc] at hchk
 refine ⟨enters_of Tryz.func10 rfl rfl,Dz J3 Tryz.func10 rfl (Nat.le_of_ble_eq_true rfl) rfl (Nat.le_refl _) ?_⟩
 refine Ap (Bb ?_)
 repeat' (first|refine rl0 ?_|refine rs0 ?_ ?_<;>intro h|fail)
 refine Ap (Bb ?_)
 repeat' (first|refine rl0 ?_|refine rs0 ?_ ?_<;>intro h|fail)
 refine E2 hchk rfl rfl rfl rfl rfl (by repeat (first|exact Ae|refine Ab (Ac _) ?_)) ?_
 repeat' (first|refine rl0 ?_|refine rs0 ?_ ?_<;>intro h|fail)
 refine Ap (Bb ?_)
 repeat' (first|refine rl0 ?_|refine rs0 ?_ ?_<;>intro h|fail)
 refine Ap (Bb ?_)
 repeat' (first|refine rl0 ?_|refine rs0 ?_ ?_<;>intro h|fail)
 ·exfalso;simp at h;omega
 have hr:=I2 vars vals hl
 rw [h0] at hr
 refine E2 hr rfl rfl rfl rfl rfl (by repeat (first|exact Ae|refine Ab (Ac _) ?_)) ?_
 repeat' (first|refine rl0 ?_|refine rs0 ?_ ?_<;>intro h|fail)
 refine Ap (Bb ?_)
 repeat' (first|refine rl0 ?_|refine rs0 ?_ ?_<;>intro h|fail)
 refine E2 ht rfl rfl rfl rfl rfl (by repeat (first|exact Ae|refine Ab (Ac _) ?_)) ?_
 repeat' (first|refine rl0 ?_|refine rs0 ?_ ?_<;>intro h|fail)
 refine Ap (Bb ?_)
 repeat' (first|refine rl0 ?_|refine rs0 ?_ ?_<;>intro h|fail)
 ·exact ⟨none,.inl ⟨rfl,.inr rfl⟩,_,rfl,rfl,rfl,.inr rfl,_,Bt rfl,rfl,rfl⟩
theorem Qk (x:Ex) (vars:List ByteArray) (vals:List Int) (hs:x.small) (hc:Bm x=0) (hl:vars.length=vals.length) (h0:Gd vars vals=true) (hk:A9 vars x=2) (na:Bool) (n:List Int) (nb:Bool) (d:List Int) (y:Bool)
  (he:Am 29 [Ady vars vals,exP x] ⟨[],[]⟩ (.ret (.agg (resC na n nb d y))) ⟨[],[]⟩):Am 10 [exP x,Db vars,Cu vals] ⟨[],[]⟩ (.ret (.tup [vlP 2 ⟨#[]⟩ y,Ah 0])) ⟨[],[]⟩:=by
 have hchk:=Eb x hs
 have ht:=L2 vars _ x (Nat.le_refl _) (Ry hc)
 rw [hk] at ht
 rw [hc] at hchk
 refine ⟨enters_of Tryz.func10 rfl rfl,Dz J3 Tryz.func10 rfl (Nat.le_of_ble_eq_true rfl) rfl (Nat.le_refl _) ?_⟩
 refine Ap (Bb ?_)
 repeat' (first|refine rl0 ?_|refine rs0 ?_ ?_<;>intro h|fail)
 refine Ap (Bb ?_)
 repeat' (first|refine rl0 ?_|refine rs0 ?_ ?_<;>intro h|fail)
 refine E2 hchk rfl rfl rfl rfl rfl (by repeat (first|exact Ae|refine Ab (Ac _) ?_)) ?_
 repeat' (first|refine rl0 ?_|refine rs0 ?_ ?_<;>intro h|fail)
 refine Ap (Bb ?_)
 repeat' (first|refine rl0 ?_|refine rs0 ?_ ?_<;>intro h|fail)
 refine Ap (Bb ?_)
 repeat' (first|refine rl0 ?_|refine rs0 ?_ ?_<;>intro h|fail)
 ·exfalso;simp at h;omega
 have hr:=I2 vars vals hl
 rw [h0] at hr
 refine E2 hr rfl rfl rfl rfl rfl (by repeat (first|exact Ae|refine Ab (Ac _) ?_)) ?_
 repeat' (first|refine rl0 ?_|refine rs0 ?_ ?_<;>intro h|fail)
 refine Ap (Bb ?_)
 repeat' (first|refine rl0 ?_|refine rs0 ?_ ?_<;>intro h|fail)
 refine E2 ht rfl rfl rfl rfl rfl (by repeat (first|exact Ae|refine Ab (Ac _) ?_)) ?_
 repeat' (first|refine rl0 ?_|refine rs0 ?_ ?_<;>intro h|fail)
 refine Ap (Bb ?_)
 repeat' (first|refine rl0 ?_|refine rs0 ?_ ?_<;>intro h|fail)
 refine Ap (Lh rfl rfl rfl rfl rfl rfl (by decide) ?_)
 refine Ap (Bb ?_)
 repeat' (first|refine rl0 ?_|refine rs0 ?_ ?_<;>intro h|fail)
 refine E2 he rfl rfl rfl rfl rfl (by repeat (first|exact Ae|refine Ab (Ac _) ?_)) ?_
 repeat' (first|refine rl0 ?_|refine rs0 ?_ ?_<;>intro h|fail)
 refine Ap (Bb ?_)
 repeat' (first|refine rl0 ?_|refine rs0 ?_ ?_<;>intro h|fail)
 exact ⟨none,.inl ⟨rfl,.inr rfl⟩,⟨_,Tryz.func28,rfl,rfl⟩,_,U4 _ _ _ _ (.v (.int .i64 0)) _ _ _ _ _ _ _,_,rfl,rfl,rfl,.inr rfl,_,Bt rfl,rfl,rfl⟩
theorem Z9 (x:Ex) (vars:List ByteArray) (vals:List Int) (hs:x.small) (hc:Bm x=0) (hl:vars.length=vals.length) (h0:Gd vars vals=true) (hk:A9 vars x=1) (na:Bool) (n:List Int) (nb:Bool) (d:List Int) (y:Bool) (s:ByteArray)
  (he:Am 29 [Ady vars vals,exP x] ⟨[],[]⟩ (.ret (.agg (resC na n nb d y))) ⟨[],[]⟩) (htx:Am 30 [.agg [An na,B1 n,An nb,B1 d]] ⟨[],[]⟩ (.ret (Bf s)) ⟨[],[]⟩):Am 10 [exP x,Db vars,Cu vals] ⟨[],[]⟩ (.ret (.tup [vlP 1 s false,Ah 0])) ⟨[],[]⟩:=by
 have hchk:=Eb x hs
 have ht:=L2 vars _ x (Nat.le_refl _) (Ry hc)
 rw [hk] at ht
 rw [hc] at hchk
 refine ⟨enters_of Tryz.func10 rfl rfl,Dz J3 Tryz.func10 rfl (Nat.le_of_ble_eq_true rfl) rfl (Nat.le_refl _) ?_⟩
 refine Ap (Bb ?_)
 repeat' (first|refine rl0 ?_|refine rs0 ?_ ?_<;>intro h|fail)
 refine Ap (Bb ?_)
 repeat' (first|refine rl0 ?_|refine rs0 ?_ ?_<;>intro h|fail)
 refine E2 hchk rfl rfl rfl rfl rfl (by repeat (first|exact Ae|refine Ab (Ac _) ?_)) ?_
 repeat' (first|refine rl0 ?_|refine rs0 ?_ ?_<;>intro h|fail)
 refine Ap (Bb ?_)
 repeat' (first|refine rl0 ?_|refine rs0 ?_ ?_<;>intro h|fail)
 refine Ap (Bb ?_)
 repeat' (first|refine rl0 ?_|refine rs0 ?_ ?_<;>intro h|fail)
 ·exfalso;simp at h;omega
 have hr:=I2 vars vals hl
 rw [h0] at hr
 refine E2 hr rfl rfl rfl rfl rfl (by repeat (first|exact Ae|refine Ab (Ac _) ?_)) ?_
 repeat' (first|refine rl0 ?_|refine rs0 ?_ ?_<;>intro h|fail)
 refine Ap (Bb ?_)
 repeat' (first|refine rl0 ?_|refine rs0 ?_ ?_<;>intro h|fail)
 refine E2 ht rfl rfl rfl rfl rfl (by repeat (first|exact Ae|refine Ab (Ac _) ?_)) ?_
 repeat' (first|refine rl0 ?_|refine rs0 ?_ ?_<;>intro h|fail)
 refine Ap (Bb ?_)
 repeat' (first|refine rl0 ?_|refine rs0 ?_ ?_<;>intro h|fail)
 refine Ap (Lh rfl rfl rfl rfl rfl rfl (by decide) ?_)
 refine Ap (Bb ?_)
 repeat' (first|refine rl0 ?_|refine rs0 ?_ ?_<;>intro h|fail)
 refine E2 he rfl rfl rfl rfl rfl (by repeat (first|exact Ae|refine Ab (Ac _) ?_)) ?_
 repeat' (first|refine rl0 ?_|refine rs0 ?_ ?_<;>intro h|fail)
 refine Ap (Bb ?_)
 repeat' (first|refine rl0 ?_|refine rs0 ?_ ?_<;>intro h|fail)
 refine Ap (Bb ?_)
 repeat' (first|refine rl0 ?_|refine rs0 ?_ ?_<;>intro h|fail)
 refine E2 htx rfl rfl rfl rfl rfl (by repeat (first|exact Ae|refine Ab (Ac _) ?_)) ?_
 repeat' (first|refine rl0 ?_|refine rs0 ?_ ?_<;>intro h|fail)
 refine Bb ?_
 repeat' (first|refine rl0 ?_|refine rs0 ?_ ?_<;>intro h|fail)
 exact ⟨none,.inl ⟨rfl,.inr rfl⟩,⟨_,Tryz.func28,rfl,rfl⟩,_,U4 _ _ _ _ (.v (.int .i64 0)) _ _ _ _ _ _ _,_,rfl,rfl,rfl,.inr rfl,_,Bt rfl,rfl,rfl⟩
theorem Z8 (x:Ex) (vars:List ByteArray) (vals:List Int) (hs:x.small) (hc:Bm x=0) (hl:vars.length=vals.length) (h0:Gd vars vals=true) (hk:A9 vars x≠0)
  (he:Am 29 [Ady vars vals,exP x] ⟨[],[]⟩ (.panic divV) ⟨[],[]⟩):Am 10 [exP x,Db vars,Cu vals] ⟨[],[]⟩ (.ret (.tup [vlP 0 ⟨#[]⟩ false,Ah 2])) ⟨[],[]⟩:=by
 have hchk:=Eb x hs
 have ht:=L2 vars _ x (Nat.le_refl _) (Ry hc)
 rw [hc] at hchk
 refine ⟨enters_of Tryz.func10 rfl rfl,Dz J3 Tryz.func10 rfl (Nat.le_of_ble_eq_true rfl) rfl (Nat.le_refl _) ?_⟩
 refine Ap (Bb ?_)
 repeat' (first|refine rl0 ?_|refine rs0 ?_ ?_<;>intro h|fail)
 refine Ap (Bb ?_)
 repeat' (first|refine rl0 ?_|refine rs0 ?_ ?_<;>intro h|fail)
 refine E2 hchk rfl rfl rfl rfl rfl (by repeat (first|exact Ae|refine Ab (Ac _) ?_)) ?_
 repeat' (first|refine rl0 ?_|refine rs0 ?_ ?_<;>intro h|fail)
 refine Ap (Bb ?_)
 repeat' (first|refine rl0 ?_|refine rs0 ?_ ?_<;>intro h|fail)
 refine Ap (Bb ?_)
 repeat' (first|refine rl0 ?_|refine rs0 ?_ ?_<;>intro h|fail)
 ·exfalso;simp at h;omega
 have hr:=I2 vars vals hl
 rw [h0] at hr
 refine E2 hr rfl rfl rfl rfl rfl (by repeat (first|exact Ae|refine Ab (Ac _) ?_)) ?_
 repeat' (first|refine rl0 ?_|refine rs0 ?_ ?_<;>intro h|fail)
 refine Ap (Bb ?_)
 repeat' (first|refine rl0 ?_|refine rs0 ?_ ?_<;>intro h|fail)
 refine E2 ht rfl rfl rfl rfl rfl (by repeat (first|exact Ae|refine Ab (Ac _) ?_)) ?_
 repeat' (first|refine rl0 ?_|refine rs0 ?_ ?_<;>intro h|fail)
 refine Ap (Bb ?_)
 repeat' (first|refine rl0 ?_|refine rs0 ?_ ?_<;>intro h|fail)
 ·exfalso;simp at h;omega
 refine Ap (Lh rfl rfl rfl rfl rfl rfl (by decide) ?_)
 refine Ap (Bb ?_)
 refine Q4 ?_
 repeat' (first|refine rl0 ?_|refine rs0 ?_ ?_<;>intro h|fail)
 refine T3 rfl (B5 rfl he.1 rfl rfl (Bd _) he.2) ?_
 exact ⟨some divV,.inr ⟨_,rfl,rfl⟩,⟨_,Tryz.func28,rfl,rfl⟩,_,edef_div x (.v (.int .i64 0)) (.v (.string ⟨#[]⟩)) (.v (.bool false)) (.v (.int .i64 0)) _ _,_,rfl,rfl,rfl,.inr rfl,_,Bt rfl,rfl,rfl⟩
abbrev Res:=Fr×Bool
def zF:Fr:=(0,0)
def Xq (o c:Int):Bool:=if o=11 then decide (c=0) else if o=12 then !decide (c=0) else if o=13 then decide (c<0) else if o=14 then decide (c<=0) else if o=15 then decide (0<c) else decide (0<=c)
def Ab8 (o:Int) (p q:Fr):Fr:=if o=7 then addF p q else if o=8 then subF p q else if o=9 then mulF p q else divF p q
def varV (vars:List ByteArray) (vals:List Int) (s:ByteArray):Int:=vals.getD (Vi vars s).toNat 0
def twoR (o:Int) (a b:Res):Option Res:=if 11<=o then some (zF,Xq o (cmpF a.1 b.1)) else if o=10/\b.1.1=0 then none else some (Ab8 o a.1 b.1,false)
def evO (o:Int) (l:List (Option Res)):Option Res :=
 match l with
 |some a::r=>if o=5 then some (Yt a.1,false) else if o=6 then some (zF,!a.2) else if o=19 then (if a.2=true then r.getD 0 none else r.getD 1 none)
  else if o=17\/o=18 then (if a.2=decide (o=18) then some a else r.getD 0 none)
  else match r with
   |some b::_=>twoR o a b
   |_=>none
 |_=>none
mutual
def evX (vars:List ByteArray) (vals:List Int):Ex->Option Res
 |.mk o n s l=>if o=1 then some ((n,1),false) else if o=2 then some ((varV vars vals s,1),false) else if o=3\/o=4 then some (zF,decide (o=3)) else evO o (Xr vars vals l)
def Xr (vars:List ByteArray) (vals:List Int):List Ex->List (Option Res)
 |[]=>[]
 |x::l=>evX vars vals x::Xr vars vals l
end
section
variable (vars:List ByteArray) (vals:List Int)
theorem ev_num (n:Int):evX vars vals (.mk 1 n ⟨#[]⟩ [])=some ((n,1),false):=rfl
theorem Afg (s:ByteArray):evX vars vals (.mk 2 0 s [])=some ((varV vars vals s,1),false):=rfl
theorem ev_yes:evX vars vals (nd 3 [])=some (zF,true):=rfl
theorem ev_no:evX vars vals (nd 4 [])=some (zF,false):=rfl
theorem Afh (a:Ex):evX vars vals (nd 5 [a])=(evX vars vals a).map fun r=>(Yt r.1,false):=by
 rw [nd,evX,Xr,Xr];cases evX vars vals a<;>rfl
theorem ev_not (a:Ex):evX vars vals (nd 6 [a])=(evX vars vals a).map fun r=>(zF,!r.2):=by
 rw [nd,evX,Xr,Xr];cases evX vars vals a<;>rfl
theorem ev_ite (a b c:Ex):evX vars vals (nd 19 [a,b,c])=(evX vars vals a).bind fun r=>if r.2=true then evX vars vals b else evX vars vals c:=by
 rw [nd,evX,Xr,Xr,Xr,Xr];cases evX vars vals a<;>rfl
theorem ev_log (o:Int) (ho:o=17\/o=18) (a b:Ex):evX vars vals (nd o [a,b])=(evX vars vals a).bind fun r=>if r.2=decide (o=18) then some r else evX vars vals b:=by
 rw [nd,evX,Xr,Xr,Xr,if_neg (by omega),if_neg (by omega),if_neg (by omega)]
 unfold evO
 cases evX vars vals a with
 |none=>rfl
 |some r=>dsimp only;rw [if_neg (by omega),if_neg (by omega),if_neg (by omega),if_pos ho];rfl
theorem Afi (o:Int) (h1:7<=o) (h2:o<=16) (a b:Ex):evX vars vals (nd o [a,b])=(evX vars vals a).bind fun r=>(evX vars vals b).bind fun t=>twoR o r t:=by
 rw [nd,evX,Xr,Xr,Xr,if_neg (by omega),if_neg (by omega),if_neg (by omega)]
 unfold evO
 cases evX vars vals a with
 |none=>rfl
 |some r =>
  dsimp only;rw [if_neg (by omega),if_neg (by omega),if_neg (by omega),if_neg (by omega)]
  cases evX vars vals b<;>rfl
end
theorem Hv (vars:List ByteArray) (o:Int) (l:List Ex):A9 vars (nd o l)=if o=2/\Ji vars ⟨#[]⟩=false then 0 else if o=19 then (match Bp vars l with|[a,b,c]=>if a≠2\/b≠c then 0 else b|_=>0) else if (Bp vars l).all (· == G0 o) then isZ o else 0:=by rw [nd,A9];rfl
theorem Nx {vars:List ByteArray} {o:Int} {a:Ex} (h:A9 vars (nd o [a])≠0) (h2:o≠2) (h19:o≠19):A9 vars a=G0 o/\A9 vars (nd o [a])=isZ o:=by
 rw [Hv,if_neg (by omega),if_neg h19] at h |-
 rw [Bp,Bp] at h |-
 split at h
 ·rename_i hc
  rw [if_pos hc];exact ⟨by simpa using hc,rfl⟩
 ·exact absurd rfl h
theorem Aam {vars:List ByteArray} {o:Int} {a b:Ex} (h:A9 vars (nd o [a,b])≠0) (h2:o≠2) (h19:o≠19):A9 vars a=G0 o/\A9 vars b=G0 o/\A9 vars (nd o [a,b])=isZ o:=by
 rw [Hv,if_neg (by omega),if_neg h19] at h |-
 rw [Bp,Bp,Bp] at h |-
 split at h
 ·rename_i hc
  rw [if_pos hc];exact ⟨by simp at hc;exact hc.1,by simp at hc;exact hc.2,rfl⟩
 ·exact absurd rfl h
theorem Aal {vars:List ByteArray} {a b c:Ex} (h:A9 vars (nd 19 [a,b,c])≠0):A9 vars a=2/\A9 vars b=A9 vars c/\A9 vars (nd 19 [a,b,c])=A9 vars b:=by
 rw [Hv,if_neg (by omega),if_pos rfl] at h |-
 rw [Bp,Bp,Bp,Bp] at h |-
 dsimp only at h |-
 split at h
 ·exact absurd rfl h
 ·rename_i hc
  rw [if_neg hc]
  simp only [not_or,Decidable.not_not] at hc
  exact ⟨hc.1,hc.2,rfl⟩
theorem Vo {vars:List ByteArray} {s:ByteArray} (h:A9 vars (.mk 2 0 s [])≠0):Ji vars s=true:=by
 rw [A9] at h
 cases hm:Ji vars s with
 |true=>rfl
 |false=>rw [if_pos ⟨rfl,hm⟩] at h;exact absurd rfl h
def Uc (vals:List Int):Prop:=∀ v∈vals,v.natAbs<1000000000
theorem Ag9 {vals:List Int} (h:Uc vals) (i:Nat):(vals.getD i 0).natAbs<1000000000:=by
 rw [List.getD_eq_getElem?_getD]
 cases e:vals[i]? with
 |none=>simp
 |some v=>exact h v (List.mem_of_getElem? e)
def Vk (t:Int) (k:Nat) (r:Res):Prop:=(t=1->Fit k r.1/\r.2=false)/\(t=2->r.1=zF)
theorem Me {vars:List ByteArray} {vals:List Int} (hv:Uc vals):∀ {x:Ex},Good x->A9 vars x≠0->∀ r,evX vars vals x=some r->Vk (A9 vars x) (Bl x) r:=by
 intro x hx
 induction hx with
 |num n h1 h2 =>
  intro _ r hr
  rw [ev_num] at hr;cases hr
  refine ⟨fun _=>⟨(Oq n (by omega)).mono (by rw [A7];omega),rfl⟩,fun h=>?_⟩
  rw [show A9 vars (.mk 1 n ⟨#[]⟩ [])=1 from rfl] at h;omega
 |name s hs =>
  intro hk r hr
  rw [Afg] at hr;cases hr
  refine ⟨fun _=>⟨(Oq _ (Ag9 hv _)).mono (by rw [A7];omega),rfl⟩,fun h=>?_⟩
  have hm:=Vo hk
  rw [show A9 vars (.mk 2 0 s [])=if (2:Int)=2/\Ji vars s=false then 0 else 1 from rfl,if_neg (by simp [hm])] at h
  omega
 |yes =>
  intro _ r hr
  rw [ev_yes] at hr;cases hr
  exact ⟨fun h=>by rw [show A9 vars (nd 3 [])=2 from rfl] at h;omega,fun _=>rfl⟩
 |no =>
  intro _ r hr
  rw [ev_no] at hr;cases hr
  exact ⟨fun h=>by rw [show A9 vars (nd 4 [])=2 from rfl] at h;omega,fun _=>rfl⟩
 |neg a _ ih =>
  intro hk r hr
  obtain ⟨h1,h2⟩:=Nx hk (by omega) (by omega)
  rw [Afh,Option.map_eq_some_iff] at hr
  obtain ⟨q,hq,rfl⟩:=hr
  rw [show G0 5=1 from rfl] at h1
  rw [show isZ 5=1 from rfl] at h2
  have hf:=((ih (by omega) q hq).1 h1).1
  refine ⟨fun _=>⟨(Yi hf).mono ?_,rfl⟩,fun h=>by omega⟩
  rw [nd,A7,Bg,Cb];omega
 |not a _ ih =>
  intro hk r hr
  obtain ⟨h1,h2⟩:=Nx hk (by omega) (by omega)
  rw [ev_not,Option.map_eq_some_iff] at hr
  obtain ⟨q,hq,rfl⟩:=hr
  rw [show isZ 6=2 from rfl] at h2
  exact ⟨fun h=>by omega,fun _=>rfl⟩
 |bin o a b h7 h18 _ _ iha ihb =>
  intro hk r hr
  obtain ⟨h1,h2,h3⟩:=Aam hk (by omega) (by omega)
  by_cases hlog:o=17\/o=18
  ·rw [ev_log _ _ o hlog,Option.bind_eq_some_iff] at hr
   obtain ⟨q,hq,hr⟩:=hr
   have hw:G0 o=2:=by unfold G0;rw [if_pos (by omega)]
   have hi:isZ o=2:=by unfold isZ;rw [if_pos (by omega)]
   rw [hw] at h1 h2
   refine ⟨fun h=>by omega,fun _=>?_⟩
   split at hr
   ·cases hr;exact (iha (by omega) _ hq).2 h1
   ·exact (ihb (by omega) _ hr).2 h2
  ·rw [Afi _ _ o h7 (by omega),Option.bind_eq_some_iff] at hr
   obtain ⟨q,hq,hr⟩:=hr
   rw [Option.bind_eq_some_iff] at hr
   obtain ⟨t,ht,hr⟩:=hr
   have hw:G0 o=1:=by unfold G0;rw [if_neg (by omega)]
   rw [hw] at h1 h2
   have fq:=((iha (by omega) _ hq).1 h1).1
   have ft:=((ihb (by omega) _ ht).1 h2).1
   have hn:Bl (nd o [a,b])=Bl a+Bl b+1:=by rw [nd,A7,Bg,Bg,Cb];omega
   unfold twoR at hr
   split at hr
   ·cases hr
    have hi:isZ o=2:=by unfold isZ;rw [if_pos (by omega)]
    exact ⟨fun h=>by omega,fun _=>rfl⟩
   ·split at hr
    ·cases hr
    ·rename_i hd
     cases hr
     have hi:isZ o=1:=by unfold isZ;rw [if_neg (by omega)]
     refine ⟨fun _=>⟨?_,rfl⟩,fun h=>by omega⟩
     rw [hn]
     show Fit _ (Ab8 o q.1 t.1)
     unfold Ab8
     split
     ·exact Yh fq ft
     split
     ·exact Afu fq ft
     split
     ·exact (Aft fq ft).mono (by omega)
     ·exact (Afr fq ft (fun e=>hd ⟨by omega,e⟩)).mono (by omega)
 |ite a b c _ _ _ iha ihb ihc =>
  intro hk r hr
  obtain ⟨h1,h2,h3⟩:=Aal hk
  rw [ev_ite,Option.bind_eq_some_iff] at hr
  obtain ⟨q,hq,hr⟩:=hr
  rw [h3] at hk |-
  have hn:Bl (nd 19 [a,b,c])=Bl a+Bl b+Bl c+1:=by rw [nd,A7,Bg,Bg,Bg,Cb];omega
  split at hr
  ·have:=ihb (by omega) r hr
   exact ⟨fun h=>⟨((this.1 h).1).mono (by omega),(this.1 h).2⟩,this.2⟩
  ·have:=ihc (by omega) r hr
   rw [<- h2] at this
   exact ⟨fun h=>⟨((this.1 h).1).mono (by omega),(this.1 h).2⟩,this.2⟩
set_option maxRecDepth 4000 in
set_option maxHeartbeats 4000000 in
theorem cmpZ_do (o c:Int) (h1:11<=o) (h2:o<=16):Am 61 [Ah o,Ah c] ⟨[],[]⟩ (.ret (An (Xq o c))) ⟨[],[]⟩:=by
 have:o=11\/o=12\/o=13\/o=14\/o=15\/o=16:=by omega
 rcases this with rfl|rfl|rfl|rfl|rfl|rfl
 all_goals
  refine Ad Tryz.func61 rfl rfl (Nat.le_of_ble_eq_true rfl) rfl (Nat.le_refl _) ?_
  refine Cm ?_
  refine Ba ?_
  refine wst rfl rfl trivial ?_
  refine Co ?_
  refine Cm ?_
  refine Ba ?_
  iterate 12 refine wst rfl rfl trivial ?_
  refine wstB rfl rfl rfl rfl trivial ?_
  refine wst rfl rfl trivial ?_
  refine wivc rfl rfl rfl rfl rfl (by omega) (by show _<(17:Int);omega) rfl ?_
  repeat' (first|refine rl0 ?_|refine rs0 ?_ ?_<;>intro h|fail)
  rfl
@[reducible] def rsP (r:Res):PV := .agg (resC (decide (r.1.1<0)) (Al r.1.1.natAbs) (decide (r.1.2<0)) (Al r.1.2.natAbs) r.2)
def evOut:Option Res->POut
 |none => .panic divV
 |some r => .ret (rsP r)
theorem rsP_z (b:Bool):rsP (zF,b) = .agg (resC false [] false [] b):=by
 unfold rsP zF;simp [At]
theorem Z0 {f:Nat} {args:List PV} {S S':PS} {b:Bool} (h:Am f args S (.ret (.agg [An false,.d (.v (.slice none 0 0)),An false,.d (.v (.slice none 0 0)),An b])) S'):Am f args S (.ret (rsP (zF,b))) S':=by
 rw [rsP_z]
 exact Ed h (by repeat' (first|exact Ae|refine Ab ?_ ?_|exact Fg|exact Ac _|refine E0 ?_|refine I6 ?_))
theorem Af7:∀ (l:List ByteArray) (s:ByteArray),Vi l s<l.length
 |[],_=>by simp [Vi]
 |x::r,s=>by
  have:=Af7 r s
  rw [Vi]
  simp only [List.length_cons]
  split
  ·omega
  ·split<;>omega
section
variable {N:Nat} {ops:Array Oper} {rest:List Oper} {o:Oper} {F:Nat->PV} {S:PS} {q:WRes->Prop} {ch:Nat->Bool} {us:List (Nat×List Nat)} {k:Nat} {bm:Bool} {D:List Nat}
theorem biv {t:TypeId} {x y:Operand} {l:List PV} {kd:IntKind} {j:Int} {p:PV} (h0:0<=j) (kk:Bw.WB Tryz.prog N ops ch (Cg us) (fun _=>[]) (k+1) rest (B8 N o.dst p F) S bm D q) (hg:Ak ops F o=some true:=by exact rfl) (hc:ch k=false:=by first|exact rfl|kernel_rfl) (ho:o.op = .index t x y:=by exact rfl)
  (hk:(A4 t&&Nat.beq (tyi t).kind 3&&A4 (tyi t).elem && !(tyi (tyi t).elem).isRow)=true:=by exact rfl) (hx:evP F x = .agg l:=by exact rfl) (hy:evP F y = .d (.v (.int kd j)):=by exact rfl) (hp:l[j.toNat*(tyi (tyi t).elem).size]? = some p:=by exact rfl) (h1:decide (j<((tyi t).len:Int))=true:=by kernel_rfl):Bw.WB Tryz.prog N ops ch (Cg us) (fun _=>[]) k (o::rest) F S bm D q:=by
 simp only [Bool.and_eq_true,Bool.not_eq_true'] at hk
 exact Xz (fun S' _=>F7 ho (Fc t hk.1.1.1) (Nat.eq_of_beq_eq_true hk.1.1.2) (Fc _ hk.1.2) hx hy h0 (of_decide_eq_true h1) (.inr ⟨hk.2,hp⟩)) kk hg hc
end
@[reducible] def nfP:PV := .d (.v .nilFunc)
theorem arith_do:Am 62 [] ⟨[],[]⟩ (.ret (.agg [nfP,nfP,nfP,nfP,nfP,nfP,nfP,.fn 44 [],.fn 43 [],.fn 45 [],.fn 50 []])) ⟨[],[]⟩:=by
 refine Ad Tryz.func62 rfl rfl (Nat.le_of_ble_eq_true rfl) rfl (Nat.le_refl _) ?_
 repeat' (first|refine rl0 ?_|refine rs0 ?_ ?_<;>intro h|fail)
 rfl
set_option maxHeartbeats 4000000 in
theorem eval_do (vars:List ByteArray) (vals:List Int) (hl:vars.length=vals.length) (hv:Uc vals):∀ (n:Nat) (x:Ex),x.hgt<=n->Good x->A9 vars x≠0->Bl x<=60->Am 29 [Ady vars vals,exP x] ⟨[],[]⟩ (evOut (evX vars vals x)) ⟨[],[]⟩:=by
 intro n
 induction n with
 |zero=>intro a h;cases a;simp [Ex.hgt] at h
 |succ n ih =>
  intro x hn hx hk hs
  cases hx with
  |num m h1 h2 =>
   rw [ev_num]
   have ho:=fof_do m (by omega)
   show Am _ _ _ (.ret (rsP ((m,1),false))) _
   refine Ad Tryz.func29 rfl rfl (Nat.le_of_ble_eq_true rfl) rfl (Nat.le_refl _) ?_
   repeat' (first|refine rl0 ?_|refine rs0 ?_ ?_<;>intro h|fail)
   refine wp1 ho ?_
   repeat' (first|refine rl0 ?_|refine rs0 ?_ ?_<;>intro h|fail)
   rfl
  |name s h1 =>
   rw [Afg]
   have hm:=Vo hk
   rw [Aah] at hm
   have hi:=of_decide_eq_true hm
   have hlt:=Af7 vars s
   obtain ⟨i,hii⟩:∃ i:Nat,Vi vars s=i:=⟨(Vi vars s).toNat,by omega⟩
   have hx:=Aaj vars s
   rw [hii] at hx
   have ho:=fof_do (vals.getD i 0) (Ag9 hv i)
   show Am _ _ _ (.ret (rsP ((varV vars vals s,1),false))) _
   unfold varV
   rw [hii,Int.toNat_natCast]
   refine Ad Tryz.func29 rfl rfl (Nat.le_of_ble_eq_true rfl) rfl (Nat.le_refl _) ?_
   repeat' (first|refine rl2 ?_|refine rs2 ?_ ?_<;>intro h|fail)
   refine b0 (fun k=>Nat.beq k 11) [(1,[0]),(3,[0]),(5,[1])] ?_
   repeat' (first|refine rl7 ?_|refine rs7 ?_ ?_<;>intro h|fail)
   refine Ax hx ?_
   repeat' (first|refine rl7 ?_|refine rs7 ?_ ?_<;>intro h|fail)
   refine Fi _ (R7 (l:=vals) (i:=i) (by omega)) (by omega) ?_
   repeat' (first|refine rl7 ?_|refine rs7 ?_ ?_<;>intro h|fail)
   refine Dk ho ?_
   repeat' (first|refine rl7 ?_|refine rs7 ?_ ?_<;>intro h|fail)
   repeat' (first|refine rl0 ?_|refine rs0 ?_ ?_<;>intro h|fail)
   rfl
  |yes =>
   rw [ev_yes]
   refine Z0 ?_
   refine Ad Tryz.func29 rfl rfl (Nat.le_of_ble_eq_true rfl) rfl (Nat.le_refl _) ?_
   repeat' (first|refine rl0 ?_|refine rs0 ?_ ?_<;>intro h|fail)
   rfl
  |no =>
   rw [ev_no]
   refine Z0 ?_
   refine Ad Tryz.func29 rfl rfl (Nat.le_of_ble_eq_true rfl) rfl (Nat.le_refl _) ?_
   repeat' (first|refine rl0 ?_|refine rs0 ?_ ?_<;>intro h|fail)
   rfl
  |neg a ha =>
   have hka:=(Nx hk (by omega) (by omega)).1
   rw [show G0 5=1 from rfl] at hka
   have hna:Bl a+1=Bl (nd 5 [a]):=by rw [nd,A7,Bg,Cb];omega
   have hc:=ih a (by have:=Gc (x:=nd 5 [a]) (y:=a) (by simp [nd,Ex.args]);omega) ha (by omega) (by omega)
   have hkk:=Me (vars:=vars) hv ha (by omega)
   rw [Afh]
   cases e:evX vars vals a with
   |none =>
    rw [e] at hc
    refine Fh Tryz.func29 rfl rfl (Nat.le_of_ble_eq_true rfl) ?_
    repeat' (first|refine rl2 ?_|refine rs2 ?_ ?_<;>intro h|fail)
    refine b0w 5 (fun k=>Nat.beq k 5||Nat.beq k 6||Nat.beq k 7) (fun k=>Nat.beq k 5||Nat.beq k 6||Nat.beq k 7) [(0,[0]),(2,[1])] [(0,[0]),(2,[1])] (by dsimp only [mkE]) (by dsimp only [mkE,Fv,List.map]) ?_ ?_
    ·repeat' (first|refine rl7 ?_|refine rs7 ?_ ?_<;>intro h|fail)
     refine Fi _ (Ai (i:=0) rfl) (by omega) ?_
     repeat' (first|refine rl7 ?_|refine rs7 ?_ ?_<;>intro h|fail)
     exact Ie (B5 rfl (hc).1 rfl rfl (Bd _) (hc).2) ⟨rfl,rfl,rfl⟩
    ·repeat' (first|refine rl7 ?_|refine rs7 ?_ ?_<;>intro h|fail)
     refine Fi _ (Ai (i:=0) rfl) (by omega) ?_
     repeat' (first|refine rl7 ?_|refine rs7 ?_ ?_<;>intro h|fail)
     exact Ie (B5 rfl (hc).1 rfl rfl (Bd _) (hc).2) ⟨rfl,rfl,rfl⟩
   |some r =>
    rw [e] at hc
    obtain ⟨hf,hb⟩:=(hkk r e).1 hka
    have hg:=fneg_do r.1
    show Am _ _ _ (.ret (rsP (Yt r.1,false))) _
    refine Ad Tryz.func29 rfl rfl (Nat.le_of_ble_eq_true rfl) rfl (Nat.le_refl _) ?_
    repeat' (first|refine rl2 ?_|refine rs2 ?_ ?_<;>intro h|fail)
    refine b0 (fun k=>Nat.beq k 6||Nat.beq k 7) [(0,[0]),(2,[1])] ?_
    repeat' (first|refine rl7 ?_|refine rs7 ?_ ?_<;>intro h|fail)
    refine Fi _ (Ai (i:=0) rfl) (by omega) ?_
    repeat' (first|refine rl7 ?_|refine rs7 ?_ ?_<;>intro h|fail)
    refine Ax hc ?_
    repeat' (first|refine rl7 ?_|refine rs7 ?_ ?_<;>intro h|fail)
    repeat' (first|refine rl0 ?_|refine rs0 ?_ ?_<;>intro h|fail)
    refine wp1 hg ?_
    repeat' (first|refine rl0 ?_|refine rs0 ?_ ?_<;>intro h|fail)
    rfl
  |not a ha =>
   have hka:=(Nx hk (by omega) (by omega)).1
   rw [show G0 6=2 from rfl] at hka
   have hna:Bl a+1=Bl (nd 6 [a]):=by rw [nd,A7,Bg,Cb];omega
   have hc:=ih a (by have:=Gc (x:=nd 6 [a]) (y:=a) (by simp [nd,Ex.args]);omega) ha (by omega) (by omega)
   rw [ev_not]
   cases e:evX vars vals a with
   |none =>
    rw [e] at hc
    refine Fh Tryz.func29 rfl rfl (Nat.le_of_ble_eq_true rfl) ?_
    repeat' (first|refine rl2 ?_|refine rs2 ?_ ?_<;>intro h|fail)
    refine b0w 5 (fun k=>Nat.beq k 5||Nat.beq k 6||Nat.beq k 7) (fun k=>Nat.beq k 5||Nat.beq k 6||Nat.beq k 7) [(0,[0]),(2,[1])] [(0,[0]),(2,[1])] (by dsimp only [mkE]) (by dsimp only [mkE,Fv,List.map]) ?_ ?_
    ·repeat' (first|refine rl7 ?_|refine rs7 ?_ ?_<;>intro h|fail)
     refine Fi _ (Ai (i:=0) rfl) (by omega) ?_
     repeat' (first|refine rl7 ?_|refine rs7 ?_ ?_<;>intro h|fail)
     exact Ie (B5 rfl (hc).1 rfl rfl (Bd _) (hc).2) ⟨rfl,rfl,rfl⟩
    ·repeat' (first|refine rl7 ?_|refine rs7 ?_ ?_<;>intro h|fail)
     refine Fi _ (Ai (i:=0) rfl) (by omega) ?_
     repeat' (first|refine rl7 ?_|refine rs7 ?_ ?_<;>intro h|fail)
     exact Ie (B5 rfl (hc).1 rfl rfl (Bd _) (hc).2) ⟨rfl,rfl,rfl⟩
   |some r =>
    rw [e] at hc
    show Am _ _ _ (.ret (rsP (zF,!r.2))) _
    refine Z0 ?_
    refine Ad Tryz.func29 rfl rfl (Nat.le_of_ble_eq_true rfl) rfl (Nat.le_refl _) ?_
    repeat' (first|refine rl2 ?_|refine rs2 ?_ ?_<;>intro h|fail)
    refine b0 (fun k=>Nat.beq k 6||Nat.beq k 7) [(0,[0]),(2,[1])] ?_
    repeat' (first|refine rl7 ?_|refine rs7 ?_ ?_<;>intro h|fail)
    refine Fi _ (Ai (i:=0) rfl) (by omega) ?_
    repeat' (first|refine rl7 ?_|refine rs7 ?_ ?_<;>intro h|fail)
    refine Ax hc ?_
    repeat' (first|refine rl7 ?_|refine rs7 ?_ ?_<;>intro h|fail)
    repeat' (first|refine rl0 ?_|refine rs0 ?_ ?_<;>intro h|fail)
    rfl
  |bin o a b h1 h2 ha hb =>
   obtain ⟨hka,hkb,hko⟩:=Aam hk (by omega) (by omega)
   have hw:G0 o≠0:=by unfold G0;split<;>omega
   have hna:Bl a+Bl b+1=Bl (nd o [a,b]):=by rw [nd,A7,Bg,Bg,Cb];omega
   have hca:=ih a (by have:=Gc (x:=nd o [a,b]) (y:=a) (by simp [nd,Ex.args]);omega) ha (by omega) (by omega)
   have hcb:=ih b (by have:=Gc (x:=nd o [a,b]) (y:=b) (by simp [nd,Ex.args]);omega) hb (by omega) (by omega)
   have hva:=Me (vars:=vars) hv ha (by omega)
   have hvb:=Me (vars:=vars) hv hb (by omega)
   by_cases hlog:o=17\/o=18
   ·rw [ev_log _ _ o hlog]
    cases e:evX vars vals a with
    |none =>
     rw [e] at hca
     rcases hlog with rfl|rfl
     ·refine Fh Tryz.func29 rfl rfl (Nat.le_of_ble_eq_true rfl) ?_
      repeat' (first|refine rl2 ?_|refine rs2 ?_ ?_<;>intro h|fail)
      refine b0w 5 (fun k=>Nat.beq k 5||Nat.beq k 6||Nat.beq k 7) (fun k=>Nat.beq k 5||Nat.beq k 6||Nat.beq k 7) [(0,[0]),(2,[1])] [(0,[0]),(2,[1])] (by dsimp only [mkE]) (by dsimp only [mkE,Fv,List.map]) ?_ ?_
      ·repeat' (first|refine rl7 ?_|refine rs7 ?_ ?_<;>intro h|fail)
       refine Fi _ (Ai (i:=0) rfl) (by omega) ?_
       repeat' (first|refine rl7 ?_|refine rs7 ?_ ?_<;>intro h|fail)
       exact Ie (B5 rfl (hca).1 rfl rfl (Bd _) (hca).2) ⟨rfl,rfl,rfl⟩
      ·repeat' (first|refine rl7 ?_|refine rs7 ?_ ?_<;>intro h|fail)
       refine Fi _ (Ai (i:=0) rfl) (by omega) ?_
       repeat' (first|refine rl7 ?_|refine rs7 ?_ ?_<;>intro h|fail)
       exact Ie (B5 rfl (hca).1 rfl rfl (Bd _) (hca).2) ⟨rfl,rfl,rfl⟩
     ·refine Fh Tryz.func29 rfl rfl (Nat.le_of_ble_eq_true rfl) ?_
      repeat' (first|refine rl2 ?_|refine rs2 ?_ ?_<;>intro h|fail)
      refine b0w 5 (fun k=>Nat.beq k 5||Nat.beq k 6||Nat.beq k 7) (fun k=>Nat.beq k 5||Nat.beq k 6||Nat.beq k 7) [(0,[0]),(2,[1])] [(0,[0]),(2,[1])] (by dsimp only [mkE]) (by dsimp only [mkE,Fv,List.map]) ?_ ?_
      ·repeat' (first|refine rl7 ?_|refine rs7 ?_ ?_<;>intro h|fail)
       refine Fi _ (Ai (i:=0) rfl) (by omega) ?_
       repeat' (first|refine rl7 ?_|refine rs7 ?_ ?_<;>intro h|fail)
       exact Ie (B5 rfl (hca).1 rfl rfl (Bd _) (hca).2) ⟨rfl,rfl,rfl⟩
      ·repeat' (first|refine rl7 ?_|refine rs7 ?_ ?_<;>intro h|fail)
       refine Fi _ (Ai (i:=0) rfl) (by omega) ?_
       repeat' (first|refine rl7 ?_|refine rs7 ?_ ?_<;>intro h|fail)
       exact Ie (B5 rfl (hca).1 rfl rfl (Bd _) (hca).2) ⟨rfl,rfl,rfl⟩
    |some r =>
     rw [e] at hca
     obtain ⟨f,y⟩:=r
     rw [Option.bind_some]
     (try dsimp only)
     cases e2:evX vars vals b with
     |none =>
      rw [e2] at hcb
      rcases hlog with rfl|rfl<;>cases y
      ·show Am _ _ _ (.ret (rsP (f,false))) _
       refine Ad Tryz.func29 rfl rfl (Nat.le_of_ble_eq_true rfl) rfl (Nat.le_refl _) ?_
       repeat' (first|refine rl2 ?_|refine rs2 ?_ ?_<;>intro h|fail)
       refine b0 (fun k=>Nat.beq k 6||Nat.beq k 7) [(0,[0]),(2,[1])] ?_
       repeat' (first|refine rl7 ?_|refine rs7 ?_ ?_<;>intro h|fail)
       refine Fi _ (Ai (i:=0) rfl) (by omega) ?_
       repeat' (first|refine rl7 ?_|refine rs7 ?_ ?_<;>intro h|fail)
       refine Ax hca ?_
       repeat' (first|refine rl7 ?_|refine rs7 ?_ ?_<;>intro h|fail)
       repeat' (first|refine rl0 ?_|refine rs0 ?_ ?_<;>intro h|fail)
       rfl
      ·refine Fh Tryz.func29 rfl rfl (Nat.le_of_ble_eq_true rfl) ?_
       repeat' (first|refine rl2 ?_|refine rs2 ?_ ?_<;>intro h|fail)
       refine b0 (fun k=>Nat.beq k 6||Nat.beq k 7) [(0,[0]),(2,[1])] ?_
       repeat' (first|refine rl7 ?_|refine rs7 ?_ ?_<;>intro h|fail)
       refine Fi _ (Ai (i:=0) rfl) (by omega) ?_
       repeat' (first|refine rl7 ?_|refine rs7 ?_ ?_<;>intro h|fail)
       refine Ax hca ?_
       repeat' (first|refine rl7 ?_|refine rs7 ?_ ?_<;>intro h|fail)
       repeat' (first|refine rl2 ?_|refine rs2 ?_ ?_<;>intro h|fail)
       refine b0 (fun k=>Nat.beq k 5||Nat.beq k 6) [(0,[0]),(2,[1])] ?_
       repeat' (first|refine rl7 ?_|refine rs7 ?_ ?_<;>intro h|fail)
       refine Fi _ (Ai (i:=1) rfl) (by omega) ?_
       repeat' (first|refine rl7 ?_|refine rs7 ?_ ?_<;>intro h|fail)
       exact Ie (B5 rfl (hcb).1 rfl rfl (Bd _) (hcb).2) ⟨rfl,rfl,rfl⟩
      ·refine Fh Tryz.func29 rfl rfl (Nat.le_of_ble_eq_true rfl) ?_
       repeat' (first|refine rl2 ?_|refine rs2 ?_ ?_<;>intro h|fail)
       refine b0 (fun k=>Nat.beq k 6||Nat.beq k 7) [(0,[0]),(2,[1])] ?_
       repeat' (first|refine rl7 ?_|refine rs7 ?_ ?_<;>intro h|fail)
       refine Fi _ (Ai (i:=0) rfl) (by omega) ?_
       repeat' (first|refine rl7 ?_|refine rs7 ?_ ?_<;>intro h|fail)
       refine Ax hca ?_
       repeat' (first|refine rl7 ?_|refine rs7 ?_ ?_<;>intro h|fail)
       repeat' (first|refine rl2 ?_|refine rs2 ?_ ?_<;>intro h|fail)
       refine b0 (fun k=>Nat.beq k 5||Nat.beq k 6) [(0,[0]),(2,[1])] ?_
       repeat' (first|refine rl7 ?_|refine rs7 ?_ ?_<;>intro h|fail)
       refine Fi _ (Ai (i:=1) rfl) (by omega) ?_
       repeat' (first|refine rl7 ?_|refine rs7 ?_ ?_<;>intro h|fail)
       exact Ie (B5 rfl (hcb).1 rfl rfl (Bd _) (hcb).2) ⟨rfl,rfl,rfl⟩
      ·show Am _ _ _ (.ret (rsP (f,true))) _
       refine Ad Tryz.func29 rfl rfl (Nat.le_of_ble_eq_true rfl) rfl (Nat.le_refl _) ?_
       repeat' (first|refine rl2 ?_|refine rs2 ?_ ?_<;>intro h|fail)
       refine b0 (fun k=>Nat.beq k 6||Nat.beq k 7) [(0,[0]),(2,[1])] ?_
       repeat' (first|refine rl7 ?_|refine rs7 ?_ ?_<;>intro h|fail)
       refine Fi _ (Ai (i:=0) rfl) (by omega) ?_
       repeat' (first|refine rl7 ?_|refine rs7 ?_ ?_<;>intro h|fail)
       refine Ax hca ?_
       repeat' (first|refine rl7 ?_|refine rs7 ?_ ?_<;>intro h|fail)
       repeat' (first|refine rl0 ?_|refine rs0 ?_ ?_<;>intro h|fail)
       rfl
     |some t =>
      rw [e2] at hcb
      rcases hlog with rfl|rfl<;>cases y
      ·show Am _ _ _ (.ret (rsP (f,false))) _
       refine Ad Tryz.func29 rfl rfl (Nat.le_of_ble_eq_true rfl) rfl (Nat.le_refl _) ?_
       repeat' (first|refine rl2 ?_|refine rs2 ?_ ?_<;>intro h|fail)
       refine b0 (fun k=>Nat.beq k 6||Nat.beq k 7) [(0,[0]),(2,[1])] ?_
       repeat' (first|refine rl7 ?_|refine rs7 ?_ ?_<;>intro h|fail)
       refine Fi _ (Ai (i:=0) rfl) (by omega) ?_
       repeat' (first|refine rl7 ?_|refine rs7 ?_ ?_<;>intro h|fail)
       refine Ax hca ?_
       repeat' (first|refine rl7 ?_|refine rs7 ?_ ?_<;>intro h|fail)
       repeat' (first|refine rl0 ?_|refine rs0 ?_ ?_<;>intro h|fail)
       rfl
      ·show Am _ _ _ (.ret (rsP t)) _
       refine Ad Tryz.func29 rfl rfl (Nat.le_of_ble_eq_true rfl) rfl (Nat.le_refl _) ?_
       repeat' (first|refine rl2 ?_|refine rs2 ?_ ?_<;>intro h|fail)
       refine b0 (fun k=>Nat.beq k 6||Nat.beq k 7) [(0,[0]),(2,[1])] ?_
       repeat' (first|refine rl7 ?_|refine rs7 ?_ ?_<;>intro h|fail)
       refine Fi _ (Ai (i:=0) rfl) (by omega) ?_
       repeat' (first|refine rl7 ?_|refine rs7 ?_ ?_<;>intro h|fail)
       refine Ax hca ?_
       repeat' (first|refine rl7 ?_|refine rs7 ?_ ?_<;>intro h|fail)
       repeat' (first|refine rl2 ?_|refine rs2 ?_ ?_<;>intro h|fail)
       refine b0 (fun k=>Nat.beq k 6) [(0,[0]),(2,[1])] ?_
       repeat' (first|refine rl7 ?_|refine rs7 ?_ ?_<;>intro h|fail)
       refine Fi _ (Ai (i:=1) rfl) (by omega) ?_
       repeat' (first|refine rl7 ?_|refine rs7 ?_ ?_<;>intro h|fail)
       refine Dk hcb ?_
       repeat' (first|refine rl7 ?_|refine rs7 ?_ ?_<;>intro h|fail)
       repeat' (first|refine rl0 ?_|refine rs0 ?_ ?_<;>intro h|fail)
       rfl
      ·show Am _ _ _ (.ret (rsP t)) _
       refine Ad Tryz.func29 rfl rfl (Nat.le_of_ble_eq_true rfl) rfl (Nat.le_refl _) ?_
       repeat' (first|refine rl2 ?_|refine rs2 ?_ ?_<;>intro h|fail)
       refine b0 (fun k=>Nat.beq k 6||Nat.beq k 7) [(0,[0]),(2,[1])] ?_
       repeat' (first|refine rl7 ?_|refine rs7 ?_ ?_<;>intro h|fail)
       refine Fi _ (Ai (i:=0) rfl) (by omega) ?_
       repeat' (first|refine rl7 ?_|refine rs7 ?_ ?_<;>intro h|fail)
       refine Ax hca ?_
       repeat' (first|refine rl7 ?_|refine rs7 ?_ ?_<;>intro h|fail)
       repeat' (first|refine rl2 ?_|refine rs2 ?_ ?_<;>intro h|fail)
       refine b0 (fun k=>Nat.beq k 6) [(0,[0]),(2,[1])] ?_
       repeat' (first|refine rl7 ?_|refine rs7 ?_ ?_<;>intro h|fail)
       refine Fi _ (Ai (i:=1) rfl) (by omega) ?_
       repeat' (first|refine rl7 ?_|refine rs7 ?_ ?_<;>intro h|fail)
       refine Dk hcb ?_
       repeat' (first|refine rl7 ?_|refine rs7 ?_ ?_<;>intro h|fail)
       repeat' (first|refine rl0 ?_|refine rs0 ?_ ?_<;>intro h|fail)
       rfl
      ·show Am _ _ _ (.ret (rsP (f,true))) _
       refine Ad Tryz.func29 rfl rfl (Nat.le_of_ble_eq_true rfl) rfl (Nat.le_refl _) ?_
       repeat' (first|refine rl2 ?_|refine rs2 ?_ ?_<;>intro h|fail)
       refine b0 (fun k=>Nat.beq k 6||Nat.beq k 7) [(0,[0]),(2,[1])] ?_
       repeat' (first|refine rl7 ?_|refine rs7 ?_ ?_<;>intro h|fail)
       refine Fi _ (Ai (i:=0) rfl) (by omega) ?_
       repeat' (first|refine rl7 ?_|refine rs7 ?_ ?_<;>intro h|fail)
       refine Ax hca ?_
       repeat' (first|refine rl7 ?_|refine rs7 ?_ ?_<;>intro h|fail)
       repeat' (first|refine rl0 ?_|refine rs0 ?_ ?_<;>intro h|fail)
       rfl
   ·rw [Afi _ _ o h1 (by omega)]
    cases e:evX vars vals a with
    |none =>
     rw [e] at hca
     show Am _ _ _ (.panic divV) _
     have ho:o=7\/o=8\/o=9\/o=10\/o=11\/o=12\/o=13\/o=14\/o=15\/o=16:=by omega
     rcases ho with rfl|rfl|rfl|rfl|rfl|rfl|rfl|rfl|rfl|rfl
     all_goals
      refine Fh Tryz.func29 rfl rfl (Nat.le_of_ble_eq_true rfl) ?_
      repeat' (first|refine rl2 ?_|refine rs2 ?_ ?_<;>intro h|fail)
      refine b0w 5 (fun k=>Nat.beq k 5||Nat.beq k 6||Nat.beq k 7) (fun k=>Nat.beq k 5||Nat.beq k 6||Nat.beq k 7) [(0,[0]),(2,[1])] [(0,[0]),(2,[1])] (by dsimp only [mkE]) (by dsimp only [mkE,Fv,List.map]) ?_ ?_
      ·repeat' (first|refine rl7 ?_|refine rs7 ?_ ?_<;>intro h|fail)
       refine Fi _ (Ai (i:=0) rfl) (by omega) ?_
       repeat' (first|refine rl7 ?_|refine rs7 ?_ ?_<;>intro h|fail)
       exact Ie (B5 rfl (hca).1 rfl rfl (Bd _) (hca).2) ⟨rfl,rfl,rfl⟩
      ·repeat' (first|refine rl7 ?_|refine rs7 ?_ ?_<;>intro h|fail)
       refine Fi _ (Ai (i:=0) rfl) (by omega) ?_
       repeat' (first|refine rl7 ?_|refine rs7 ?_ ?_<;>intro h|fail)
       exact Ie (B5 rfl (hca).1 rfl rfl (Bd _) (hca).2) ⟨rfl,rfl,rfl⟩
    |some r =>
     rw [e] at hca
     rw [Option.bind_some]
     (try dsimp only)
     cases e2:evX vars vals b with
     |none =>
      rw [e2] at hcb
      show Am _ _ _ (.panic divV) _
      have ho:o=7\/o=8\/o=9\/o=10\/o=11\/o=12\/o=13\/o=14\/o=15\/o=16:=by omega
      rcases ho with rfl|rfl|rfl|rfl|rfl|rfl|rfl|rfl|rfl|rfl
      all_goals
       refine Fh Tryz.func29 rfl rfl (Nat.le_of_ble_eq_true rfl) ?_
       repeat' (first|refine rl2 ?_|refine rs2 ?_ ?_<;>intro h|fail)
       refine b0 (fun k=>Nat.beq k 6||Nat.beq k 7) [(0,[0]),(2,[1])] ?_
       repeat' (first|refine rl7 ?_|refine rs7 ?_ ?_<;>intro h|fail)
       refine Fi _ (Ai (i:=0) rfl) (by omega) ?_
       repeat' (first|refine rl7 ?_|refine rs7 ?_ ?_<;>intro h|fail)
       refine Ax hca ?_
       repeat' (first|refine rl7 ?_|refine rs7 ?_ ?_<;>intro h|fail)
       repeat' (first|refine rl2 ?_|refine rs2 ?_ ?_<;>intro h|fail)
       refine b0w 5 (fun k=>Nat.beq k 5||Nat.beq k 6||Nat.beq k 7) (fun k=>Nat.beq k 5||Nat.beq k 6||Nat.beq k 7) [(0,[0]),(2,[1])] [(0,[0]),(2,[1])] (by dsimp only [mkE]) (by dsimp only [mkE,Fv,List.map]) ?_ ?_
       ·repeat' (first|refine rl7 ?_|refine rs7 ?_ ?_<;>intro h|fail)
        refine Fi _ (Ai (i:=1) rfl) (by omega) ?_
        repeat' (first|refine rl7 ?_|refine rs7 ?_ ?_<;>intro h|fail)
        exact Ie (B5 rfl (hcb).1 rfl rfl (Bd _) (hcb).2) ⟨rfl,rfl,rfl⟩
       ·repeat' (first|refine rl7 ?_|refine rs7 ?_ ?_<;>intro h|fail)
        refine Fi _ (Ai (i:=1) rfl) (by omega) ?_
        repeat' (first|refine rl7 ?_|refine rs7 ?_ ?_<;>intro h|fail)
        exact Ie (B5 rfl (hcb).1 rfl rfl (Bd _) (hcb).2) ⟨rfl,rfl,rfl⟩
     |some t =>
      rw [e2] at hcb
      rw [Option.bind_some]
      have hw1:G0 o=1:=by unfold G0;rw [if_neg (by omega)]
      obtain ⟨ra,ya⟩:=r
      obtain ⟨rb,yb⟩:=t
      have fa:=((hva _ e).1 (by omega)).1
      have fb:=((hvb _ e2).1 (by omega)).1
      have hcm:=Afp fa fb (by omega) (by omega)
      have hsg:=Aa1 rb.1 rb.2
      by_cases hrel:11<=o
      ·have hcp:=cmpZ_do o (cmpF ra rb) hrel (by omega)
       unfold twoR
       rw [if_pos hrel]
       show Am _ _ _ (.ret (rsP (zF,Xq o (cmpF ra rb)))) _
       refine Z0 ?_
       generalize cmpF ra rb=cv at *
       have ho:o=11\/o=12\/o=13\/o=14\/o=15\/o=16:=by omega
       rcases ho with rfl|rfl|rfl|rfl|rfl|rfl
       all_goals
        refine Ad Tryz.func29 rfl rfl (Nat.le_of_ble_eq_true rfl) rfl (Nat.le_refl _) ?_
        repeat' (first|refine rl2 ?_|refine rs2 ?_ ?_<;>intro h|fail)
        refine b0 (fun k=>Nat.beq k 6||Nat.beq k 7) [(0,[0]),(2,[1])] ?_
        repeat' (first|refine rl7 ?_|refine rs7 ?_ ?_<;>intro h|fail)
        refine Fi _ (Ai (i:=0) rfl) (by omega) ?_
        repeat' (first|refine rl7 ?_|refine rs7 ?_ ?_<;>intro h|fail)
        refine Ax hca ?_
        repeat' (first|refine rl7 ?_|refine rs7 ?_ ?_<;>intro h|fail)
        repeat' (first|refine rl2 ?_|refine rs2 ?_ ?_<;>intro h|fail)
        refine b0 (fun k=>Nat.beq k 6||Nat.beq k 7) [(0,[0]),(2,[1])] ?_
        repeat' (first|refine rl7 ?_|refine rs7 ?_ ?_<;>intro h|fail)
        refine Fi _ (Ai (i:=1) rfl) (by omega) ?_
        repeat' (first|refine rl7 ?_|refine rs7 ?_ ?_<;>intro h|fail)
        refine Ax hcb ?_
        repeat' (first|refine rl7 ?_|refine rs7 ?_ ?_<;>intro h|fail)
        repeat' (first|refine rl2 ?_|refine rs2 ?_ ?_<;>intro h|fail)
        refine b0 (fun k=>Nat.beq k 9) [(1,[1]),(3,[3]),(5,[4])] ?_
        repeat' (first|refine rl7 ?_|refine rs7 ?_ ?_<;>intro h|fail)
        refine Ax hcm ?_
        repeat' (first|refine rl7 ?_|refine rs7 ?_ ?_<;>intro h|fail)
        refine Ax hcp ?_
        repeat' (first|refine rl7 ?_|refine rs7 ?_ ?_<;>intro h|fail)
        repeat' (first|refine rl0 ?_|refine rs0 ?_ ?_<;>intro h|fail)
        rfl
      ·have har:=arith_do
       unfold twoR
       rw [if_neg hrel]
       have ho:o=7\/o=8\/o=9\/o=10:=by omega
       by_cases hz:o=10/\rb.1=0
       ·obtain ⟨rfl,hz⟩:=hz
        rw [if_pos ⟨rfl,hz⟩]
        show Am _ _ _ (.panic divV) _
        rw [Ks.2 hz] at hsg
        refine Fh Tryz.func29 rfl rfl (Nat.le_of_ble_eq_true rfl) ?_
        repeat' (first|refine rl2 ?_|refine rs2 ?_ ?_<;>intro h|fail)
        refine b0 (fun k=>Nat.beq k 6||Nat.beq k 7) [(0,[0]),(2,[1])] ?_
        repeat' (first|refine rl7 ?_|refine rs7 ?_ ?_<;>intro h|fail)
        refine Fi _ (Ai (i:=0) rfl) (by omega) ?_
        repeat' (first|refine rl7 ?_|refine rs7 ?_ ?_<;>intro h|fail)
        refine Ax hca ?_
        repeat' (first|refine rl7 ?_|refine rs7 ?_ ?_<;>intro h|fail)
        repeat' (first|refine rl2 ?_|refine rs2 ?_ ?_<;>intro h|fail)
        refine b0 (fun k=>Nat.beq k 6||Nat.beq k 7) [(0,[0]),(2,[1])] ?_
        repeat' (first|refine rl7 ?_|refine rs7 ?_ ?_<;>intro h|fail)
        refine Fi _ (Ai (i:=1) rfl) (by omega) ?_
        repeat' (first|refine rl7 ?_|refine rs7 ?_ ?_<;>intro h|fail)
        refine Ax hcb ?_
        repeat' (first|refine rl7 ?_|refine rs7 ?_ ?_<;>intro h|fail)
        repeat' (first|refine rl2 ?_|refine rs2 ?_ ?_<;>intro h|fail)
        refine wp1 hsg ?_
        repeat' (first|refine rl2 ?_|refine rs2 ?_ ?_<;>intro h|fail)
        refine T3 rfl (Aa5 rfl rfl) ?_
        exact ⟨rfl,rfl,rfl⟩
       ·rw [if_neg hz]
        show Am _ _ _ (.ret (rsP (Ab8 o ra rb,false))) _
        rcases ho with rfl|rfl|rfl|rfl
        ·have hfn:=Afn fa fb (by omega) (by omega)
         show Am _ _ _ (.ret (rsP (addF ra rb,false))) _
         refine Ad Tryz.func29 rfl rfl (Nat.le_of_ble_eq_true rfl) rfl (Nat.le_refl _) ?_
         repeat' (first|refine rl2 ?_|refine rs2 ?_ ?_<;>intro h|fail)
         refine b0 (fun k=>Nat.beq k 6||Nat.beq k 7) [(0,[0]),(2,[1])] ?_
         repeat' (first|refine rl7 ?_|refine rs7 ?_ ?_<;>intro h|fail)
         refine Fi _ (Ai (i:=0) rfl) (by omega) ?_
         repeat' (first|refine rl7 ?_|refine rs7 ?_ ?_<;>intro h|fail)
         refine Ax hca ?_
         repeat' (first|refine rl7 ?_|refine rs7 ?_ ?_<;>intro h|fail)
         repeat' (first|refine rl2 ?_|refine rs2 ?_ ?_<;>intro h|fail)
         refine b0 (fun k=>Nat.beq k 6||Nat.beq k 7) [(0,[0]),(2,[1])] ?_
         repeat' (first|refine rl7 ?_|refine rs7 ?_ ?_<;>intro h|fail)
         refine Fi _ (Ai (i:=1) rfl) (by omega) ?_
         repeat' (first|refine rl7 ?_|refine rs7 ?_ ?_<;>intro h|fail)
         refine Ax hcb ?_
         repeat' (first|refine rl7 ?_|refine rs7 ?_ ?_<;>intro h|fail)
         repeat' (first|refine rl2 ?_|refine rs2 ?_ ?_<;>intro h|fail)
         refine b0 (fun k=>Nat.beq k 10) [(2,[1]),(5,[3]),(7,[4])] ?_
         repeat' (first|refine rl7 ?_|refine rs7 ?_ ?_<;>intro h|fail)
         refine Ax har ?_
         repeat' (first|refine rl7 ?_|refine rs7 ?_ ?_<;>intro h|fail)
         refine biv (j:=7) (by decide) ?_
         repeat' (first|refine rl7 ?_|refine rs7 ?_ ?_<;>intro h|fail)
         refine Ax hfn ?_
         repeat' (first|refine rl7 ?_|refine rs7 ?_ ?_<;>intro h|fail)
         repeat' (first|refine rl0 ?_|refine rs0 ?_ ?_<;>intro h|fail)
         rfl
        ·have hfn:=Af1 fa fb (by omega) (by omega)
         show Am _ _ _ (.ret (rsP (subF ra rb,false))) _
         refine Ad Tryz.func29 rfl rfl (Nat.le_of_ble_eq_true rfl) rfl (Nat.le_refl _) ?_
         repeat' (first|refine rl2 ?_|refine rs2 ?_ ?_<;>intro h|fail)
         refine b0 (fun k=>Nat.beq k 6||Nat.beq k 7) [(0,[0]),(2,[1])] ?_
         repeat' (first|refine rl7 ?_|refine rs7 ?_ ?_<;>intro h|fail)
         refine Fi _ (Ai (i:=0) rfl) (by omega) ?_
         repeat' (first|refine rl7 ?_|refine rs7 ?_ ?_<;>intro h|fail)
         refine Ax hca ?_
         repeat' (first|refine rl7 ?_|refine rs7 ?_ ?_<;>intro h|fail)
         repeat' (first|refine rl2 ?_|refine rs2 ?_ ?_<;>intro h|fail)
         refine b0 (fun k=>Nat.beq k 6||Nat.beq k 7) [(0,[0]),(2,[1])] ?_
         repeat' (first|refine rl7 ?_|refine rs7 ?_ ?_<;>intro h|fail)
         refine Fi _ (Ai (i:=1) rfl) (by omega) ?_
         repeat' (first|refine rl7 ?_|refine rs7 ?_ ?_<;>intro h|fail)
         refine Ax hcb ?_
         repeat' (first|refine rl7 ?_|refine rs7 ?_ ?_<;>intro h|fail)
         repeat' (first|refine rl2 ?_|refine rs2 ?_ ?_<;>intro h|fail)
         refine b0 (fun k=>Nat.beq k 10) [(2,[1]),(5,[3]),(7,[4])] ?_
         repeat' (first|refine rl7 ?_|refine rs7 ?_ ?_<;>intro h|fail)
         refine Ax har ?_
         repeat' (first|refine rl7 ?_|refine rs7 ?_ ?_<;>intro h|fail)
         refine biv (j:=8) (by decide) ?_
         repeat' (first|refine rl7 ?_|refine rs7 ?_ ?_<;>intro h|fail)
         refine Ax hfn ?_
         repeat' (first|refine rl7 ?_|refine rs7 ?_ ?_<;>intro h|fail)
         repeat' (first|refine rl0 ?_|refine rs0 ?_ ?_<;>intro h|fail)
         rfl
        ·have hfn:=Afw fa fb (by omega) (by omega)
         show Am _ _ _ (.ret (rsP (mulF ra rb,false))) _
         refine Ad Tryz.func29 rfl rfl (Nat.le_of_ble_eq_true rfl) rfl (Nat.le_refl _) ?_
         repeat' (first|refine rl2 ?_|refine rs2 ?_ ?_<;>intro h|fail)
         refine b0 (fun k=>Nat.beq k 6||Nat.beq k 7) [(0,[0]),(2,[1])] ?_
         repeat' (first|refine rl7 ?_|refine rs7 ?_ ?_<;>intro h|fail)
         refine Fi _ (Ai (i:=0) rfl) (by omega) ?_
         repeat' (first|refine rl7 ?_|refine rs7 ?_ ?_<;>intro h|fail)
         refine Ax hca ?_
         repeat' (first|refine rl7 ?_|refine rs7 ?_ ?_<;>intro h|fail)
         repeat' (first|refine rl2 ?_|refine rs2 ?_ ?_<;>intro h|fail)
         refine b0 (fun k=>Nat.beq k 6||Nat.beq k 7) [(0,[0]),(2,[1])] ?_
         repeat' (first|refine rl7 ?_|refine rs7 ?_ ?_<;>intro h|fail)
         refine Fi _ (Ai (i:=1) rfl) (by omega) ?_
         repeat' (first|refine rl7 ?_|refine rs7 ?_ ?_<;>intro h|fail)
         refine Ax hcb ?_
         repeat' (first|refine rl7 ?_|refine rs7 ?_ ?_<;>intro h|fail)
         repeat' (first|refine rl2 ?_|refine rs2 ?_ ?_<;>intro h|fail)
         refine b0 (fun k=>Nat.beq k 10) [(2,[1]),(5,[3]),(7,[4])] ?_
         repeat' (first|refine rl7 ?_|refine rs7 ?_ ?_<;>intro h|fail)
         refine Ax har ?_
         repeat' (first|refine rl7 ?_|refine rs7 ?_ ?_<;>intro h|fail)
         refine biv (j:=9) (by decide) ?_
         repeat' (first|refine rl7 ?_|refine rs7 ?_ ?_<;>intro h|fail)
         refine Ax hfn ?_
         repeat' (first|refine rl7 ?_|refine rs7 ?_ ?_<;>intro h|fail)
         repeat' (first|refine rl0 ?_|refine rs0 ?_ ?_<;>intro h|fail)
         rfl
        ·have hb0:rb.1≠0:=fun e=>hz ⟨rfl,e⟩
         have hfn:=Afq fa fb hb0 (by omega) (by omega)
         show Am _ _ _ (.ret (rsP (divF ra rb,false))) _
         refine Ad Tryz.func29 rfl rfl (Nat.le_of_ble_eq_true rfl) rfl (Nat.le_refl _) ?_
         repeat' (first|refine rl2 ?_|refine rs2 ?_ ?_<;>intro h|fail)
         refine b0 (fun k=>Nat.beq k 6||Nat.beq k 7) [(0,[0]),(2,[1])] ?_
         repeat' (first|refine rl7 ?_|refine rs7 ?_ ?_<;>intro h|fail)
         refine Fi _ (Ai (i:=0) rfl) (by omega) ?_
         repeat' (first|refine rl7 ?_|refine rs7 ?_ ?_<;>intro h|fail)
         refine Ax hca ?_
         repeat' (first|refine rl7 ?_|refine rs7 ?_ ?_<;>intro h|fail)
         repeat' (first|refine rl2 ?_|refine rs2 ?_ ?_<;>intro h|fail)
         refine b0 (fun k=>Nat.beq k 6||Nat.beq k 7) [(0,[0]),(2,[1])] ?_
         repeat' (first|refine rl7 ?_|refine rs7 ?_ ?_<;>intro h|fail)
         refine Fi _ (Ai (i:=1) rfl) (by omega) ?_
         repeat' (first|refine rl7 ?_|refine rs7 ?_ ?_<;>intro h|fail)
         refine Ax hcb ?_
         repeat' (first|refine rl7 ?_|refine rs7 ?_ ?_<;>intro h|fail)
         repeat' (first|refine rl2 ?_|refine rs2 ?_ ?_<;>intro h|fail)
         refine wp1 hsg ?_
         repeat' (first|refine rl2 ?_|refine rs2 ?_ ?_<;>intro h|fail)
         ·exfalso;have:=Ks (x:=rb.1);simp at *;omega
         refine b0 (fun k=>Nat.beq k 10) [(2,[1]),(5,[3]),(7,[4])] ?_
         repeat' (first|refine rl7 ?_|refine rs7 ?_ ?_<;>intro h|fail)
         refine Ax har ?_
         repeat' (first|refine rl7 ?_|refine rs7 ?_ ?_<;>intro h|fail)
         refine biv (j:=10) (by decide) ?_
         repeat' (first|refine rl7 ?_|refine rs7 ?_ ?_<;>intro h|fail)
         refine Ax hfn ?_
         repeat' (first|refine rl7 ?_|refine rs7 ?_ ?_<;>intro h|fail)
         repeat' (first|refine rl0 ?_|refine rs0 ?_ ?_<;>intro h|fail)
         rfl
  |ite a b c ha hb hc =>
   obtain ⟨hka,hkb,hkc⟩:=Aal hk
   have hna:Bl a+Bl b+Bl c+1=Bl (nd 19 [a,b,c]):=by rw [nd,A7,Bg,Bg,Bg,Cb];omega
   have hca:=ih a (by have:=Gc (x:=nd 19 [a,b,c]) (y:=a) (by simp [nd,Ex.args]);omega) ha (by omega) (by omega)
   have hcb:=ih b (by have:=Gc (x:=nd 19 [a,b,c]) (y:=b) (by simp [nd,Ex.args]);omega) hb (by omega) (by omega)
   have hcc:=ih c (by have:=Gc (x:=nd 19 [a,b,c]) (y:=c) (by simp [nd,Ex.args]);omega) hc (by omega) (by omega)
   rw [ev_ite]
   cases e:evX vars vals a with
   |none =>
    rw [e] at hca
    refine Fh Tryz.func29 rfl rfl (Nat.le_of_ble_eq_true rfl) ?_
    repeat' (first|refine rl2 ?_|refine rs2 ?_ ?_<;>intro h|fail)
    refine b0w 5 (fun k=>Nat.beq k 5||Nat.beq k 6||Nat.beq k 7) (fun k=>Nat.beq k 5||Nat.beq k 6||Nat.beq k 7) [(0,[0]),(2,[1])] [(0,[0]),(2,[1])] (by dsimp only [mkE]) (by dsimp only [mkE,Fv,List.map]) ?_ ?_
    ·repeat' (first|refine rl7 ?_|refine rs7 ?_ ?_<;>intro h|fail)
     refine Fi _ (Ai (i:=0) rfl) (by omega) ?_
     repeat' (first|refine rl7 ?_|refine rs7 ?_ ?_<;>intro h|fail)
     exact Ie (B5 rfl (hca).1 rfl rfl (Bd _) (hca).2) ⟨rfl,rfl,rfl⟩
    ·repeat' (first|refine rl7 ?_|refine rs7 ?_ ?_<;>intro h|fail)
     refine Fi _ (Ai (i:=0) rfl) (by omega) ?_
     repeat' (first|refine rl7 ?_|refine rs7 ?_ ?_<;>intro h|fail)
     exact Ie (B5 rfl (hca).1 rfl rfl (Bd _) (hca).2) ⟨rfl,rfl,rfl⟩
   |some r =>
    rw [e] at hca
    obtain ⟨f,y⟩:=r
    rw [Option.bind_some]
    (try dsimp only)
    cases y with
    |true =>
     rw [if_pos rfl]
     cases e2:evX vars vals b with
     |none =>
      rw [e2] at hcb
      refine Fh Tryz.func29 rfl rfl (Nat.le_of_ble_eq_true rfl) ?_
      repeat' (first|refine rl2 ?_|refine rs2 ?_ ?_<;>intro h|fail)
      refine b0 (fun k=>Nat.beq k 6||Nat.beq k 7) [(0,[0]),(2,[1])] ?_
      repeat' (first|refine rl7 ?_|refine rs7 ?_ ?_<;>intro h|fail)
      refine Fi _ (Ai (i:=0) rfl) (by omega) ?_
      repeat' (first|refine rl7 ?_|refine rs7 ?_ ?_<;>intro h|fail)
      refine Ax hca ?_
      repeat' (first|refine rl7 ?_|refine rs7 ?_ ?_<;>intro h|fail)
      repeat' (first|refine rl2 ?_|refine rs2 ?_ ?_<;>intro h|fail)
      refine b0 (fun k=>Nat.beq k 5||Nat.beq k 6) [(0,[0]),(2,[1])] ?_
      repeat' (first|refine rl7 ?_|refine rs7 ?_ ?_<;>intro h|fail)
      refine Fi _ (Ai (i:=1) rfl) (by omega) ?_
      repeat' (first|refine rl7 ?_|refine rs7 ?_ ?_<;>intro h|fail)
      exact Ie (B5 rfl (hcb).1 rfl rfl (Bd _) (hcb).2) ⟨rfl,rfl,rfl⟩
     |some t =>
      rw [e2] at hcb
      show Am _ _ _ (.ret (rsP t)) _
      refine Ad Tryz.func29 rfl rfl (Nat.le_of_ble_eq_true rfl) rfl (Nat.le_refl _) ?_
      repeat' (first|refine rl2 ?_|refine rs2 ?_ ?_<;>intro h|fail)
      refine b0 (fun k=>Nat.beq k 6||Nat.beq k 7) [(0,[0]),(2,[1])] ?_
      repeat' (first|refine rl7 ?_|refine rs7 ?_ ?_<;>intro h|fail)
      refine Fi _ (Ai (i:=0) rfl) (by omega) ?_
      repeat' (first|refine rl7 ?_|refine rs7 ?_ ?_<;>intro h|fail)
      refine Ax hca ?_
      repeat' (first|refine rl7 ?_|refine rs7 ?_ ?_<;>intro h|fail)
      repeat' (first|refine rl2 ?_|refine rs2 ?_ ?_<;>intro h|fail)
      refine b0 (fun k=>Nat.beq k 6) [(0,[0]),(2,[1])] ?_
      repeat' (first|refine rl7 ?_|refine rs7 ?_ ?_<;>intro h|fail)
      refine Fi _ (Ai (i:=1) rfl) (by omega) ?_
      repeat' (first|refine rl7 ?_|refine rs7 ?_ ?_<;>intro h|fail)
      refine Dk hcb ?_
      repeat' (first|refine rl7 ?_|refine rs7 ?_ ?_<;>intro h|fail)
      repeat' (first|refine rl0 ?_|refine rs0 ?_ ?_<;>intro h|fail)
      rfl
    |false =>
     rw [if_neg (by simp)]
     cases e2:evX vars vals c with
     |none =>
      rw [e2] at hcc
      refine Fh Tryz.func29 rfl rfl (Nat.le_of_ble_eq_true rfl) ?_
      repeat' (first|refine rl2 ?_|refine rs2 ?_ ?_<;>intro h|fail)
      refine b0 (fun k=>Nat.beq k 6||Nat.beq k 7) [(0,[0]),(2,[1])] ?_
      repeat' (first|refine rl7 ?_|refine rs7 ?_ ?_<;>intro h|fail)
      refine Fi _ (Ai (i:=0) rfl) (by omega) ?_
      repeat' (first|refine rl7 ?_|refine rs7 ?_ ?_<;>intro h|fail)
      refine Ax hca ?_
      repeat' (first|refine rl7 ?_|refine rs7 ?_ ?_<;>intro h|fail)
      repeat' (first|refine rl2 ?_|refine rs2 ?_ ?_<;>intro h|fail)
      refine b0 (fun k=>Nat.beq k 5||Nat.beq k 6) [(0,[0]),(2,[1])] ?_
      repeat' (first|refine rl7 ?_|refine rs7 ?_ ?_<;>intro h|fail)
      refine Fi _ (Ai (i:=2) rfl) (by omega) ?_
      repeat' (first|refine rl7 ?_|refine rs7 ?_ ?_<;>intro h|fail)
      exact Ie (B5 rfl (hcc).1 rfl rfl (Bd _) (hcc).2) ⟨rfl,rfl,rfl⟩
     |some t =>
      rw [e2] at hcc
      show Am _ _ _ (.ret (rsP t)) _
      refine Ad Tryz.func29 rfl rfl (Nat.le_of_ble_eq_true rfl) rfl (Nat.le_refl _) ?_
      repeat' (first|refine rl2 ?_|refine rs2 ?_ ?_<;>intro h|fail)
      refine b0 (fun k=>Nat.beq k 6||Nat.beq k 7) [(0,[0]),(2,[1])] ?_
      repeat' (first|refine rl7 ?_|refine rs7 ?_ ?_<;>intro h|fail)
      refine Fi _ (Ai (i:=0) rfl) (by omega) ?_
      repeat' (first|refine rl7 ?_|refine rs7 ?_ ?_<;>intro h|fail)
      refine Ax hca ?_
      repeat' (first|refine rl7 ?_|refine rs7 ?_ ?_<;>intro h|fail)
      repeat' (first|refine rl2 ?_|refine rs2 ?_ ?_<;>intro h|fail)
      refine b0 (fun k=>Nat.beq k 6) [(0,[0]),(2,[1])] ?_
      repeat' (first|refine rl7 ?_|refine rs7 ?_ ?_<;>intro h|fail)
      refine Fi _ (Ai (i:=2) rfl) (by omega) ?_
      repeat' (first|refine rl7 ?_|refine rs7 ?_ ?_<;>intro h|fail)
      refine Dk hcc ?_
      repeat' (first|refine rl7 ?_|refine rs7 ?_ ?_<;>intro h|fail)
      repeat' (first|refine rl0 ?_|refine rs0 ?_ ?_<;>intro h|fail)
      rfl
end Go.Proofs.YtjagmmmcibdibaaGreatDoor
namespace Go.Proofs.YtjagmmmcibdibaaGreatDoor.D4
open Go.RowKit
def Aj:List Int->Int
 |[]=>0
 |x::r=>x+10000*Aj r
def Af (x:Int):Prop:=0<=x/\x<10000
theorem Aw:∀ {l:List Int},(∀ x∈l,Af x)->0<=Aj l
 |[],_=>by simp [Aj]
 |x::r,h=>by
  have h1:=Aw (l:=r) fun y hy=>h y (List.mem_cons_of_mem _ hy)
  have h2:=(h x List.mem_cons_self).1
  simp only [Aj];omega
theorem Bx:∀ (l r:List Int),Aj (l++r)=Aj l+10000 ^ l.length*Aj r
 |[],r=>by simp [Aj]
 |x::l,r=>by
  simp only [List.cons_append,Aj,Bx l r,List.length_cons,Int.pow_succ]
  rw [Int.mul_add,<- Int.mul_assoc,Int.mul_comm (10000 ^ l.length) 10000];omega
theorem Xh {l:List Int} {i:Nat} (h:i<l.length):Aj (l.drop i)=l.getD i 0+10000*Aj (l.drop (i+1)):=by
 rw [List.drop_eq_getElem_cons h,Aj,List.getD_eq_getElem?_getD,List.getElem?_eq_getElem h];rfl
theorem Ck:∀ {l:List Int},(∀ x∈l,Af x)->Aj l<10000 ^ l.length
 |[],_=>by simp [Aj]
 |x::r,h=>by
  have h1:=Ck (l:=r) fun y hy=>h y (List.mem_cons_of_mem _ hy)
  have h2:=(h x List.mem_cons_self).2
  simp only [Aj,List.length_cons,Int.pow_succ];omega
theorem Hz {l:List Int} (h:∀ x∈l,Af x) {i:Nat} (hi:i<l.length):Af (l.getD i 0):=by
 rw [List.getD_eq_getElem?_getD,List.getElem?_eq_getElem hi];exact h _ (List.getElem_mem hi)
def Bs:List Int->List Int
 |[]=>[]
 |x::r=>match Bs r with
  |[]=>if x=0 then [] else [x]
  |y::s=>x::y::s
theorem Lx:∀ l,(Bs l).length<=l.length
 |[]=>Nat.le_refl _
 |x::r=>by
  have h:=Lx r
  unfold Bs
  split
  ·rename_i e;split<;>simp
  ·rename_i y s e;rw [e] at h;simp at h |-;omega
theorem Hm:∀ (l:List Int) (x:Int),Bs (l++[x])=if x=0 then Bs l else l++[x]
 |[],x=>by simp [Bs]
 |a::l,x=>by
  rw [List.cons_append,Bs,Hm l x]
  by_cases h:x=0
  ·simp only [if_pos h];rw [Bs]
  ·simp only [if_neg h]
   cases l with
   |nil=>rfl
   |cons b l=>rfl
theorem Lz:∀ l,Aj (Bs l)=Aj l
 |[]=>rfl
 |x::r=>by
  have h:=Lz r
  unfold Bs
  split
  ·rename_i e
   rw [e] at h;simp only [Aj] at h |-
   split<;>simp [Aj]<;>omega
  ·rename_i y s e
   rw [e] at h
   rw [Aj,h];rfl
theorem Ly {p:Int->Prop}:∀ {l:List Int},(∀ x∈l,p x)->∀ x∈Bs l,p x
 |[],h=>h
 |x::r,h=>by
  have h1:=Ly (l:=r) fun y hy=>h y (List.mem_cons_of_mem _ hy)
  unfold Bs
  split
  ·split
   ·simp
   ·intro y hy;simp at hy;subst hy;exact h _ List.mem_cons_self
  ·rename_i y s e
   rw [e] at h1
   intro z hz
   rcases List.mem_cons.1 hz with rfl|hz
   ·exact h _ List.mem_cons_self
   ·exact h1 z hz
theorem Ay {l:List Int} (h:∀ z∈l,Af z) (i:Nat):Af (l.getD i 0):=by
 by_cases hi:i<l.length
 ·exact Hz h hi
 ·rw [List.getD_eq_getElem?_getD,List.getElem?_eq_none (by omega)];exact ⟨by simp,by simp⟩
theorem Aik {l:List Int} {i:Nat} {v:Int} (h:∀ z∈l,Af z) (hv:Af v):∀ z∈l.set i v,Af z:=fun x hx=>by
 rcases List.mem_or_eq_of_mem_set hx with h1|rfl
 ·exact h x h1
 ·exact hv
def Al (n:Nat):List Int:=if h:n=0 then [] else ((n % 10000:Nat):Int)::Al (n / 10000)
termination_by n
decreasing_by omega
theorem At:Al 0=[]:=by rw [Al];rfl
theorem Ca {n:Nat} (h:n≠0):Al n=((n % 10000:Nat):Int)::Al (n / 10000):=by rw [Al,dif_neg h]
theorem Bi (n:Nat):Aj (Al n)=n:=by
 induction n using Nat.strongRecOn with
 |ind n ih =>
  by_cases h:n=0
  ·subst h;rw [At];rfl
  ·rw [Ca h,Aj,ih _ (by omega)];omega
theorem Bq (n:Nat):∀ x∈Al n,Af x:=by
 induction n using Nat.strongRecOn with
 |ind n ih =>
  by_cases h:n=0
  ·subst h;rw [At];simp
  ·rw [Ca h]
   intro x hx
   rcases List.mem_cons.1 hx with rfl|hx
   ·exact ⟨by omega,by omega⟩
   ·exact ih _ (by omega) x hx
theorem C7 {n:Nat}:Al n=[]<->n=0:=by
 constructor
 ·intro h;have:=Bi n;rw [h] at this;simp only [Aj] at this;omega
 ·rintro rfl;exact At
theorem N9:∀ {l:List Int},(∀ x∈l,Af x)->Bs l=Al (Aj l).toNat
 |[],_=>by simp [Bs,Aj,At]
 |x::r,h=>by
  have hr:=fun y hy=>h y (List.mem_cons_of_mem x hy)
  have h1:=N9 hr
  have h0:=Aw hr
  obtain ⟨h2,h3⟩:=h x List.mem_cons_self
  rw [Bs,Aj]
  by_cases hz:Aj r=0
  ·rw [h1,hz]
   simp only [Int.toNat_zero,At]
   split
   ·rename_i e;subst e;simp [At]
   ·rename_i e
    rw [Ca (by omega)]
    simp only [Int.mul_zero,Int.add_zero]
    rw [show x.toNat / 10000=0 by omega,At]
    congr 1;omega
  ·rw [h1]
   have hn:Al (Aj r).toNat≠[]:=by rw [Ne,C7];omega
   rw [Ca (n:=(x+10000*Aj r).toNat) (by omega),show (x+10000*Aj r).toNat / 10000=(Aj r).toNat by omega]
   split
   ·rename_i e;exact absurd e hn
   ·rename_i y s e;rw [e];congr 1;omega
theorem Jf {n k:Nat} (h:n<10000 ^ k):(Al n).length<=k:=by
 induction k generalizing n with
 |zero=>simp at h;subst h;rw [At];exact Nat.le_refl _
 |succ k ih =>
  by_cases hn:n=0
  ·subst hn;rw [At];simp
  ·rw [Ca hn]
   have:=ih (n:=n / 10000) (by rw [Nat.pow_succ] at h;omega)
   simp;exact this
theorem Lb {n k : Nat} (h : (Al n).length <= k) : n < 10000 ^ k := by
  induction k generalizing n with
  | zero => have : Al n = [] := List.length_eq_zero_iff.1 (by omega)
            rw [C7] at this; subst this; decide
  | succ k ih =>
    by_cases hn : n = 0
    . subst hn; exact Nat.pow_pos (by decide)
    . rw [Ca hn] at h
      have := ih (n := n / 10000) (by simpa using h)
      rw [Nat.pow_succ]; omega
theorem A1 (l:List Int):∀ i,Aj (l.take (i+1))=Aj (l.take i)+10000 ^ i*l.getD i 0:=by
 intro i
 by_cases h:i<l.length
 ·rw [List.take_succ_eq_append_getElem h,Bx,List.length_take,Nat.min_eq_left (by omega),List.getD_eq_getElem?_getD,List.getElem?_eq_getElem h]
  simp [Aj]
 ·rw [List.take_of_length_le (by omega),List.take_of_length_le (by omega),List.getD_eq_getElem?_getD,List.getElem?_eq_none (by omega)];simp
theorem Gw {a b:Nat} (h:a<=b):(10000:Int) ^ a<=10000 ^ b:=by
 have h1:((10000 ^ a:Nat):Int)<=((10000 ^ b:Nat):Int):=Int.ofNat_le.2 (Nat.pow_le_pow_right (by decide) h)
 rw [Int.natCast_pow,Int.natCast_pow] at h1;exact h1
theorem Js (k:Nat):(0:Int)<10000 ^ k:=Int.pow_pos (by decide)
def Av (m o:List Int):Nat->List Int×Int
 |0=>([],0)
 |i+1=>((Av m o i).1++[(if m.getD i 0-(Av m o i).2-o.getD i 0<0 then m.getD i 0-(Av m o i).2-o.getD i 0+10000 else m.getD i 0-(Av m o i).2-o.getD i 0)],if m.getD i 0-(Av m o i).2-o.getD i 0<0 then 1 else 0)
def J5 (m o:List Int):List Int:=(Av m o m.length).1
theorem Bv (m o:List Int):∀ i,(Av m o i).1.length=i
 |0=>rfl
 |i+1=>by simp [Av,Bv m o i]
theorem Hc {m o:List Int} (hm:∀ z∈m,Af z) (ho:∀ z∈o,Af z):∀ i,(∀ z∈(Av m o i).1,Af z)/\0<=(Av m o i).2/\(Av m o i).2<=1
 |0=>by simp [Av]
 |i+1=>by
  obtain ⟨h1,h2,h3⟩:=Hc hm ho i
  obtain ⟨h4,h5⟩:=Ay hm i
  obtain ⟨h6,h7⟩:=Ay ho i
  simp only [Av]
  refine ⟨fun z hz=>?_,by split<;>omega,by split<;>omega⟩
  rcases List.mem_append.1 hz with hz|hz
  ·exact h1 z hz
  ·rw [List.mem_singleton] at hz;subst hz;unfold Af;split<;>omega
theorem Hd (m o:List Int):∀ i,Aj (Av m o i).1-10000 ^ i*(Av m o i).2=Aj (m.take i)-Aj (o.take i)
 |0=>by simp [Av,Aj]
 |i+1=>by
  have h:=Hd m o i
  rw [A1,A1,Av,Bx,Bv]
  simp only [Aj]
  rw [Int.pow_succ]
  split<;>grind
theorem Mi {m o:List Int} (hm:∀ z∈m,Af z) (ho:∀ z∈o,Af z) (hl:o.length<=m.length) (hv:Aj o<=Aj m):Aj (J5 m o)=Aj m-Aj o/\(∀ z∈J5 m o,Af z)/\(J5 m o).length=m.length:=by
 have h:=Hd m o m.length
 rw [List.take_length,List.take_of_length_le hl] at h
 obtain ⟨h1,h2,h3⟩:=Hc hm ho m.length
 have h4:=Bv m o m.length
 have h5:=Ck h1
 rw [h4] at h5
 have hb:(Av m o m.length).2=0:=by
  rcases (show (Av m o m.length).2=0\/(Av m o m.length).2=1 by omega) with e|e
  ·exact e
  ·rw [e] at h;simp at h;omega
 rw [hb] at h
 exact ⟨by unfold J5;omega,h1,h4⟩
def Uq (m o:List Int):Nat->Int
 |0=>0
 |i+1=>if m.getD i 0<o.getD i 0 then -1 else if o.getD i 0<m.getD i 0 then 1 else Uq m o i
theorem Ku {m o:List Int} (hm:∀ z∈m,Af z) (ho:∀ z∈o,Af z):∀ i,Uq m o i=Cp (Aj (m.take i)) (Aj (o.take i))
 |0=>by simp [Uq,Aj,Cp]
 |i+1=>by
  have h:=Ku hm ho i
  rw [A1,A1,Uq]
  have h1:=Ck (l:=m.take i) fun z hz=>hm z (List.mem_of_mem_take hz)
  have h2:=Ck (l:=o.take i) fun z hz=>ho z (List.mem_of_mem_take hz)
  have h3:=Aw (l:=m.take i) fun z hz=>hm z (List.mem_of_mem_take hz)
  have h4:=Aw (l:=o.take i) fun z hz=>ho z (List.mem_of_mem_take hz)
  have h5:(10000:Int) ^ (m.take i).length<=10000 ^ i:=Gw (by rw [List.length_take];omega)
  have h6:(10000:Int) ^ (o.take i).length<=10000 ^ i:=Gw (by rw [List.length_take];omega)
  have h7:=Js i
  split
  ·rename_i hlt
   have h8:(10000:Int) ^ i*(m.getD i 0+1)<=10000 ^ i*o.getD i 0:=Int.mul_le_mul_of_nonneg_left (by omega) (by omega)
   rw [Int.mul_add] at h8
   rw [Cp,if_pos (by omega)]
  ·split
   ·rename_i hlt
    have h8:(10000:Int) ^ i*(o.getD i 0+1)<=10000 ^ i*m.getD i 0:=Int.mul_le_mul_of_nonneg_left (by omega) (by omega)
    rw [Int.mul_add] at h8
    rw [Cp,if_neg (by omega),if_pos (by omega)]
   ·have e:m.getD i 0=o.getD i 0:=by omega
    rw [h,e];unfold Cp
    congr 1
    ·simp
    ·congr 1;simp
def cmpL (m o:List Int):Int:=if m.length<o.length then -1 else if o.length<m.length then 1 else Uq m o m.length
theorem Hy {n:Nat} (h:n≠0):10000 ^ ((Al n).length-1)<=n:=by
 induction n using Nat.strongRecOn with
 |ind n ih =>
  rw [Ca h]
  simp only [List.length_cons,Nat.add_sub_cancel]
  by_cases h2:n / 10000=0
  ·rw [h2,At];simp;omega
  ·have:=ih _ (by omega) h2
   have hl:(Al (n / 10000)).length≠0:=by rw [Ne,List.length_eq_zero_iff,C7];exact h2
   obtain ⟨k,hk⟩:∃ k,(Al (n / 10000)).length=k+1:=⟨(Al (n / 10000)).length-1,by omega⟩
   rw [hk] at this |-
   simp only [Nat.add_sub_cancel] at this
   rw [Nat.pow_succ];omega
theorem Kv (a b:Nat):cmpL (Al a) (Al b)=Cp a b:=by
 unfold cmpL
 have ha:=Ck (Bq a)
 have hb:=Ck (Bq b)
 rw [Bi] at ha hb
 split
 ·rename_i h
  have h0:b≠0:=by rintro rfl;rw [At] at h;simp at h
  have h1:=Hy h0
  have h2:(10000:Int) ^ (Al a).length<=10000 ^ ((Al b).length-1):=Gw (by omega)
  have h3:((10000 ^ ((Al b).length-1):Nat):Int)<=b:=by exact_mod_cast h1
  rw [Int.natCast_pow] at h3
  rw [Cp,if_pos];exact Int.lt_of_lt_of_le ha (Int.le_trans h2 h3)
 ·split
  ·rename_i h
   have h0:a≠0:=by rintro rfl;rw [At] at h;simp at h
   have h1:=Hy h0
   have h2:(10000:Int) ^ (Al b).length<=10000 ^ ((Al a).length-1):=Gw (by omega)
   have h3:((10000 ^ ((Al a).length-1):Nat):Int)<=a:=by exact_mod_cast h1
   rw [Int.natCast_pow] at h3
   have h4:=Int.lt_of_lt_of_le hb (Int.le_trans h2 h3)
   rw [Cp,if_neg (by omega),if_pos h4]
  ·have he:(Al a).length=(Al b).length:=by omega
   rw [Ku (Bq a) (Bq b),List.take_length,he,List.take_length,Bi,Bi]
theorem Fw:∀ {l:List Int} {j:Nat} {v:Int},j<l.length->Aj (l.set j v)=Aj l+10000 ^ j*(v-l.getD j 0)
 |x::r,0,v,_=>by simp [Aj];omega
 |x::r,j+1,v,h=>by
  have h1:=Fw (l:=r) (j:=j) (v:=v) (by simpa using h)
  simp only [List.set_cons_succ,Aj,h1,List.getD_cons_succ,Int.pow_succ]
  grind
theorem Hu {l:List Int} {i j:Nat} {v:Int} (h:i≠j):(l.set i v).getD j 0=l.getD j 0:=by
 simp only [List.getD_eq_getElem?_getD,List.getElem?_set_ne h]
theorem Tw (n:Nat):Aj (List.replicate n 0)=0:=by
 induction n with
 |zero=>rfl
 |succ n ih=>rw [List.replicate_succ,Aj,ih];rfl
end Go.Proofs.YtjagmmmcibdibaaGreatDoor.D4
namespace Go.Proofs.YtjagmmmcibdibaaGreatDoor
open Go.RowKit
def Ii:List UInt8->Nat->Nat
 |[],a=>a
 |c::r,a=>Ii r (10*a+(c.toNat-48))
def P4 (c:UInt8):Prop:=48<=c.toNat/\c.toNat<=57
theorem Ke:∀ (l r:List UInt8) (a:Nat),Ii (l++r) a=Ii r (Ii l a)
 |[],_,_=>rfl
 |c::l,r,a=>by simp only [List.cons_append,Ii];exact Ke l r _
theorem G6:∀ (l:List UInt8) (a:Nat),Ii l a=a*10 ^ l.length+Ii l 0
 |[],a=>by simp [Ii]
 |c::l,a=>by
  simp only [Ii,List.length_cons]
  rw [G6 l (10*a+(c.toNat-48)),G6 l (10*0+(c.toNat-48)),Nat.pow_succ]
  grind
theorem Ru:∀ {l:List UInt8},(∀ c∈l,P4 c)->Ii l 0<10 ^ l.length
 |[],_=>by simp [Ii]
 |c::l,h=>by
  have h1:=Ru (l:=l) fun x hx=>h x (List.mem_cons_of_mem _ hx)
  have h2:=(h c List.mem_cons_self).2
  rw [Ii,G6,List.length_cons,Nat.pow_succ]
  have h3:(10*0+(c.toNat-48))*10 ^ l.length<=9*10 ^ l.length:=Nat.mul_le_mul_right _ (by omega)
  omega
theorem Ok {j:Nat} (h:j<10):(UInt8.ofNat (48+j)).toNat=48+j:=by
 rw [UInt8.toNat_ofNat'];omega
theorem Ec {n:Nat} (h:n<10):Lib.decDigits n=[UInt8.ofNat (48+n)]:=by rw [Lib.decDigits,dif_pos h]
theorem L9 {n:Nat} (h:¬ n<10):Lib.decDigits n=Lib.decDigits (n / 10)++[UInt8.ofNat (48+n % 10)]:=by rw [Lib.decDigits,dif_neg h]
theorem Z2 (n:Nat):Ii (Lib.decDigits n) 0=n:=by
 induction n using Nat.strongRecOn with
 |ind n ih =>
  by_cases h:n<10
  ·rw [Ec h,Ii,Ii,Ok h];omega
  ·rw [L9 h,Ke,ih _ (by omega),Ii,Ii,Ok (by omega)];omega
theorem Ma (n:Nat):∀ c∈Lib.decDigits n,P4 c:=by
 induction n using Nat.strongRecOn with
 |ind n ih =>
  by_cases h:n<10
  ·rw [Ec h];intro c hc;rw [List.mem_singleton] at hc;subst hc;unfold P4;rw [Ok h];omega
  ·rw [L9 h]
   intro c hc
   rcases List.mem_append.1 hc with hc|hc
   ·exact ih _ (by omega) c hc
   ·rw [List.mem_singleton] at hc;subst hc;unfold P4;rw [Ok (by omega)];omega
theorem Uv (n:Nat):Lib.decDigits n≠[]:=by
 by_cases h:n<10
 ·rw [Ec h];simp
 ·rw [L9 h];simp
theorem dec_head {n:Nat} (hn:n≠0):∃ c r,Lib.decDigits n=c::r/\c≠48:=by
 induction n using Nat.strongRecOn with
 |ind n ih =>
  by_cases h:n<10
  ·refine ⟨_,_,Ec h,fun e=>?_⟩
   have:=congrArg UInt8.toNat e
   rw [Ok h] at this
   have:(48:UInt8).toNat=48:=rfl
   omega
  ·obtain ⟨c,r,h1,h2⟩:=ih (n / 10) (by omega) (by omega)
   exact ⟨c,r++[UInt8.ofNat (48+n % 10)],by rw [L9 h,h1];rfl,h2⟩
set_option maxRecDepth 100000 in
set_option maxHeartbeats 1000000 in
theorem bld_used (b:Nat) (w:World) (h0:w.cell? ⟨b,0,none⟩=some (.pointer (some ⟨b,0,none⟩))) :
  Calls Tryz.prog 123 #[.pointer (some ⟨b,0,none⟩)] w fun e w'=>e = .returned (.tuple #[])/\w'=w:=by
 obtain ⟨j,hj,_⟩:∃ j,Tryz.prog.info? 151=some j/\j.size=2:=Option.map_eq_some_iff.1 (by kernel_rfl)
 go_enter Tryz.func123,Tryz.ntmps123
 go_wp2
 rw [Lib.run_neq_ptr_same w _ Tryz.underlying149 hj]
 go_wp2
 go_end0
 exact ⟨rfl,rfl⟩
set_option maxRecDepth 100000 in
set_option maxHeartbeats 1000000 in
theorem Aer (b:Nat) (w:World) (h0:w.cell? ⟨b,0,none⟩=some (.pointer none)) (hsh:w.shape? b=some (151,2)) (hfz:w.frozen? ⟨b,0,none⟩=false) :
  Calls Tryz.prog 123 #[.pointer (some ⟨b,0,none⟩)] w fun e w'=>e = .returned (.tuple #[])/\w'=w.setCell ⟨b,0,none⟩ (.pointer (some ⟨b,0,none⟩)):=by
 obtain ⟨j,hj,hjs⟩:∃ j,Tryz.prog.info? 151=some j/\j.size=2:=Option.map_eq_some_iff.1 (by kernel_rfl)
 go_enter Tryz.func123,Tryz.ntmps123
 go_wp2
 rw [Lib.run_to_unsafe w ⟨b,0,none⟩ Tryz.underlying149 Tryz.underlying216 hj (by rw [hjs];decide) hsh (Nat.zero_lt_succ 1)]
 simp only [Result.andThen]
 rw [Oper.upon_value]
 go_wp2
 rw [run_callFunc_extern Tryz.func157 (by kernel_rfl) (by kernel_rfl) (by kernel_rfl) (e:=Extern.AbiNoEscape.same) (by kernel_rfl)]
 rw [Lib.run_noEscape]
 simp only [Result.andThen]
 rw [Oper.upon_value]
 go_wp2
 rw [Lib.run_from_unsafe w ⟨b,0,none⟩ Tryz.underlying216 Tryz.underlying149 hj hsh (by kernel_rfl)]
 simp only [Result.andThen]
 rw [Oper.upon_value]
 go_wp2
 go_end0
 exact ⟨rfl,rfl⟩
theorem Uh (B b:Nat) (bs:List Value) (w:World) (h:Lib.IsBuilder 151 5 B b bs w) :
  Calls Tryz.prog 123 #[.pointer (some ⟨b,0,none⟩)] w fun e w'=>e = .returned (.tuple #[])/\(Lib.BuilderAt 151 5 B b (.pointer (some ⟨b,0,none⟩)) bs w'/\Below B w w'):=by
 rcases h with h|h
 ·refine (Aer b w h.cell0 h.shape h.frozen0).mono ?_
  rintro e w' ⟨rfl,rfl⟩
  exact ⟨rfl,h.used _,(Below.refl B w).setCell (p:=⟨b,0,none⟩) h.1 _⟩
 ·refine (bld_used b w h.cell0).mono ?_
  rintro e w' ⟨rfl,rfl⟩
  exact ⟨rfl,h,Below.refl B _⟩
set_option maxHeartbeats 2000000 in
set_option maxRecDepth 100000 in
theorem F3 (B b:Nat) (bs:List Value) (s:ByteArray) (w:World) (h:Lib.IsBuilder 151 5 B b bs w) (hlen:bs.length+s.size<=140737488355328) (hBw:B<=w.heap.size) :
  Calls Tryz.prog 92 #[.pointer (some ⟨b,0,none⟩),.string s] w fun e w'=>e = .returned (.tuple #[.int .i64 s.size,.nilIface])/\(Lib.BuilderAt 151 5 B b (.pointer (some ⟨b,0,none⟩)) (bs++Lib.strCells s) w'/\Below B w w'):=by
 obtain ⟨i0,hi,hz0,hz1,hz2⟩:=info_parts (P:=Tryz.prog) (e:=5) (size:=1) (bytes:=1) (z := .int .u8 0) (by kernel_rfl)
 go_enter Tryz.func92,Tryz.ntmps92
 go_wp2_with (go_at_call 123;refine (Uh B b bs _ h).mono ?_)
 rintro e w1 ⟨rfl,h1,hb1⟩
 obtain ⟨hB,v,hbk,hown,hne⟩:=h1
 have c0:w1.cell? ⟨b,0,none⟩=some (.pointer (some ⟨b,0,none⟩)):=by rw [Lib.cell_of_heap hbk];rfl
 have c1:w1.cell? ⟨b,1,none⟩=some v:=by rw [Lib.cell_of_heap hbk];rfl
 go_wp2_with (at_builtin;refine Lib.wpList_append_own_string _ rfl _ _ 25 9 rfl B 5 i0 Tryz.underlying25 Tryz.underlying9 hi hz0 hz1 hz2 _ _ _ rfl hown s rfl ?c3 ?c4 ?c5 ?_)
 case c3=>unfold maxLen;omega
 case c4=>omega
 case c5=>have:=hb1.size;omega
 intro v' w2 hown' hgrow _
 have hlt:b<w1.heap.size:=by
  rcases Nat.lt_or_ge b w1.heap.size with h'|h'
  ·exact h'
  ·simp [Array.getElem?_eq_none h'] at hbk
 have hb2:w2.heap[b]? = some (.cells #[.pointer (some ⟨b,0,none⟩),v] 151 (0,0)):=by
  rw [hgrow.block b hlt (fun e=>hne e.symm)]
  exact hbk
 have d0:w2.cell? ⟨b,0,none⟩=some (.pointer (some ⟨b,0,none⟩)):=by rw [Lib.cell_of_heap hb2];rfl
 have d1:w2.cell? ⟨b,1,none⟩=some v:=by rw [Lib.cell_of_heap hb2];rfl
 have f1:w2.frozen? ⟨b,1,none⟩=false:=Lib.frozen_of_heap hb2 1
 obtain ⟨ao,n',cap,rfl⟩:∃ ao n' cap,v' = .slice ao n' cap:=by
  rcases hown'.2 with ⟨hv,_⟩|⟨g,cap,cur,hv,_⟩
  ·exact ⟨_,_,_,hv⟩
  ·exact ⟨_,_,_,hv⟩
 go_wp2
 go_ret2
 refine ⟨rfl,?_,?_⟩
 ·exact Lib.BuilderAt.put (T:=151) (e:=5) hB hb2 (bs':=bs++Lib.strCells s) (by simpa [Lib.strCells_length] using hown') (by decide)
 ·exact (hb1.grown hgrow (by have:=hb1.size;omega) (fun k hk=>(hown.lt k hk).1)).setCell (p:=⟨b,1,none⟩) hB _
set_option maxHeartbeats 2000000 in
set_option maxRecDepth 100000 in
theorem bld_byte (B b:Nat) (bs:List Value) (c:Int) (w:World) (h:Lib.IsBuilder 151 5 B b bs w) (hlen:bs.length+1<=140737488355328) (hBw:B<=w.heap.size) :
  Calls Tryz.prog 90 #[.pointer (some ⟨b,0,none⟩),.int .u8 c] w fun e w'=>e = .returned .nilIface/\(Lib.BuilderAt 151 5 B b (.pointer (some ⟨b,0,none⟩)) (bs++[.int .u8 c]) w'/\Below B w w'):=by
 obtain ⟨i0,hi,hz0,hz1,hz2⟩:=info_parts (P:=Tryz.prog) (e:=5) (size:=1) (bytes:=1) (z := .int .u8 0) (by kernel_rfl)
 go_enter Tryz.func90,Tryz.ntmps90
 go_wp2_with (go_at_call 123;refine (Uh B b bs _ h).mono ?_)
 rintro e w1 ⟨rfl,h1,hb1⟩
 obtain ⟨hB,v,hbk,hown,hne⟩:=h1
 have c0:w1.cell? ⟨b,0,none⟩=some (.pointer (some ⟨b,0,none⟩)):=by rw [Lib.cell_of_heap hbk];rfl
 have c1:w1.cell? ⟨b,1,none⟩=some v:=by rw [Lib.cell_of_heap hbk];rfl
 go_wp2_with (at_builtin;refine wpList_append_own _ rfl _ _ 25 rfl B 5 i0 (.int .u8 0) 1 1 Tryz.underlying25 hi hz0 hz1 hz2 rfl (by decide) _ _ _ rfl (hown.alloc _) ⟨w1.heap.size,0,none⟩ 1 1 [.int .u8 c] rfl rfl ?c1 ?c2 ?c3 ?c4 ?c5 ?_)
 case c1 =>
  intro j u hj
  match j,hj with
  |0,hj=>simp at hj;subst hj;simp [Addr.add]
 case c2=>intro u hu;simp at hu;subst hu;rfl
 case c3=>unfold maxLen;omega
 case c4=>omega
 case c5=>have:=hb1.size;simp;omega
 intro v' w2 hown' hgrow _
 have hlt:b<w1.heap.size:=by
  rcases Nat.lt_or_ge b w1.heap.size with h'|h'
  ·exact h'
  ·simp [Array.getElem?_eq_none h'] at hbk
 have hb2:w2.heap[b]? = some (.cells #[.pointer (some ⟨b,0,none⟩),v] 151 (0,0)):=by
  rw [hgrow.block b (by simp;omega) (fun e=>hne e.symm),Lib.alloc_old w1 _ b hlt]
  exact hbk
 have d0:w2.cell? ⟨b,0,none⟩=some (.pointer (some ⟨b,0,none⟩)):=by rw [Lib.cell_of_heap hb2];rfl
 have d1:w2.cell? ⟨b,1,none⟩=some v:=by rw [Lib.cell_of_heap hb2];rfl
 have f1:w2.frozen? ⟨b,1,none⟩=false:=Lib.frozen_of_heap hb2 1
 obtain ⟨g,cap,rfl⟩:∃ g cap,v' = .slice (some ⟨g,0,none⟩) (bs.length+1) cap:=by
  rcases hown'.2 with ⟨_,h0⟩|⟨g,cap,cur,hv,_⟩
  ·omega
  ·exact ⟨g,cap,hv⟩
 go_wp2
 go_ret
 refine ⟨rfl,?_,?_⟩
 ·exact Lib.BuilderAt.put (T:=151) (e:=5) hB hb2 (bs':=bs++[.int .u8 c]) (by simpa using hown') (by decide)
 ·exact ((hb1.alloc (by have:=hb1.size;omega) _).grown hgrow (by have:=hb1.size;simp;omega) (fun k hk=>(hown.lt k hk).1)).setCell (p:=⟨b,1,none⟩) hB _
attribute [local go_sem] Oper.semAt_some
def J9:List Int->List UInt8
 |[]=>[]
 |[x]=>Lib.itoa x
 |x::y::r=>J9 (y::r)++((List.replicate 9 48).drop (Lib.itoa x).length++Lib.itoa x)
def Pr (neg:Bool) (l:List Int):List UInt8:=if l=[] then [48] else (if neg then [45] else [])++J9 l
theorem Agr:∀ (k u:Nat),u<10 ^ (k+1)->Lib.nDigits u<=k+1
 |0,u,h=>by rw [Lib.nDigits_small (by omega)];exact Nat.le_refl _
 |k+1,u,h=>by
  rw [Lib.nDigits]
  split
  ·omega
  ·have:=Agr k (u / 10) (by rw [Nat.pow_succ] at h;omega)
   omega
theorem Nv {x:Int} (h:Af x):(Lib.itoa x).length<=9:=by
 obtain ⟨n,rfl⟩:=Int.eq_ofNat_of_zero_le h.1
 rw [show ((n:Nat):Int)=Int.ofNat n from rfl] at *
 rw [show Int.ofNat n=(n:Int) from rfl,Lib.itoa_nonneg,Lib.decDigits_length]
 have h2:=h.2
 exact Agr 8 n (by rw [show Int.ofNat n=(n:Int) from rfl] at h2;omega)
theorem L0:∀ {l:List Int},(∀ x∈l,Af x)->(J9 l).length<=9*l.length
 |[],_=>by simp [J9]
 |[x],h=>by have:=Nv (h x List.mem_cons_self);simpa [J9] using this
 |x::y::r,h=>by
  have h1:=L0 (l:=y::r) fun z hz=>h z (List.mem_cons_of_mem _ hz)
  have h2:=Nv (h x List.mem_cons_self)
  simp only [J9,List.length_append,List.length_drop,List.length_replicate,List.length_cons] at h1 |-
  omega
theorem lims_of {G:Nat->Nat->Prop} {w:World} {sl:Value} {l:List Int} (h:Ci G w (.sl 1 (l.map B4)) sl):∃ p cap,sl = .slice p l.length cap/\l.length<=cap/\cap<=9223372036854775807 /\
  ∀ (j:Nat),j<l.length->∃ b o,p=some ⟨b,o,none⟩/\w.cell? ⟨b,o+j,none⟩=some (.int .u32 (l.getD j 0)):=by
 simp only [Ci] at h
 obtain ⟨p,cap,rfl,h1,h2,h3⟩:=h
 simp only [List.length_map] at h1 h3
 refine ⟨p,cap,by simp,h1,h2,fun j hlt=>?_⟩
 obtain ⟨b,o,rfl,h4,h5⟩:=h3 (by intro e;simp at e;subst e;simp at hlt)
 have h6:=Lo (j:=j) (e:=B4 l[j]) h5 (by simp [hlt])
 simp only [Aq] at h6
 obtain ⟨⟨u0,c0,r0⟩,_⟩:=h6
 simp only [Ci] at r0
 rw [r0.1,Nat.mul_one] at c0
 refine ⟨b,o,rfl,?_⟩
 rw [c0,List.getD_eq_getElem?_getD,List.getElem?_eq_getElem hlt];rfl
theorem Ug {T e:TypeId} {B b:Nat} {bs:List Value} {w w':World} (h:Lib.IsBuilder T e B b bs w) (hb:Below w.heap.size w w'):Lib.IsBuilder T e B b bs w':=by
 have key:∀ p,Lib.BuilderAt T e B b p bs w->Lib.BuilderAt T e B b p bs w':=by
  rintro p ⟨h1,v,h2,h3,h4⟩
  refine ⟨h1,v,(hb.block _ (Array.getElem?_eq_some_iff.1 h2).1).trans h2,h3.kept (row:=none) ⟨hb.os,hb.tape,hb.output,hb.size,fun k hk _=>hb.block k hk⟩ ?_,h4⟩
  cases hv:v.ownBlock with
  |none=>exact .inl rfl
  |some k=>exact .inr (by simp)
 rcases h with h|h
 ·exact .inl (key _ h)
 ·exact .inr (key _ h)
theorem Ps {x:Int} {r:List Int} (h:r≠[]):J9 (x::r)=J9 r++((List.replicate 9 48).drop (Lib.itoa x).length++Lib.itoa x):=by
 cases r with
 |nil=>exact absurd rfl h
 |cons y r=>rfl
theorem zext (n:Nat) (h:n<=9):(ByteArray.extract ⟨#[48,48,48,48,48,48,48,48,48]⟩ n 9).data.toList=(List.replicate 9 48).drop n:=by
 have key:∀ n:Fin 10,(ByteArray.extract ⟨#[48,48,48,48,48,48,48,48,48]⟩ n.val 9).data.toList=(List.replicate 9 48).drop n.val:=by decide +kernel
 exact key ⟨n,by omega⟩
theorem zsize (n:Nat):ByteArray.size (ByteArray.extract ⟨#[48,48,48,48,48,48,48,48,48]⟩ n 9)<=9:=by
 rw [ByteArray.size_extract];simp [ByteArray.size]
set_option maxRecDepth 100000 in
set_option maxHeartbeats 4000000 in
theorem text_any (neg:Bool) (l:List Int) (K:Kx) (w:World) (hf:Inv K ⟨[],[]⟩ w) (hl:l.length<=1000000) (hok:∀ x∈l,Af x) (p:Option Addr) (cap:Nat) (hcap:l.length<=cap) (hmax:cap<=9223372036854775807)
  (hel:∀ (j:Nat),j<l.length->∃ b o,p=some ⟨b,o,none⟩/\w.cell? ⟨b,o+j,none⟩=some (.int .u32 (l.getD j 0))) :
  Calls Tryz.prog 64 #[.agg #[.bool neg,.slice p l.length cap]] w fun e w'=>e = .returned (.string ⟨(Pr neg l).toArray⟩)/\Below w.heap.size w w':=by
 go_enter Tryz.func64,Tryz.ntmps64
 by_cases h0:l.length=0
 ·go_wp2
  go_ret
  have hl0:l=[]:=List.length_eq_zero_iff.1 h0
  subst hl0
  exact ⟨rfl,(Below.refl _ _).alloc (Nat.le_refl _) _⟩
 ·have h0':¬ ((l.length:Int)=0):=by omega
  have h0b:((l.length:Int)==0)=false:=by simpa using h0'
  have hw1:IntKind.i64.wrap ((l.length:Int)-1)=(l.length:Int)-1:=by rw [IntKind.wrap_i64];omega
  have hne:l≠[]:=fun e=>h0 (by rw [e];rfl)
  have HF:=Lib.hid hf
  have HOK:=Lib.hid hok
  have HEL:=Lib.hid hel
  clear hf hok hel
  obtain ⟨W1,hW1⟩:∃ W1,w.alloc (.cells #[.bool neg,.slice p l.length cap] 75)=W1:=⟨_,rfl⟩
  have hs1:W1.heap.size=w.heap.size+1:=by rw [<- hW1];simp
  have hb1:Below w.heap.size w W1:=by rw [<- hW1];exact (Below.refl _ _).alloc (Nat.le_refl _) _
  have hcl1:∀ j u,[Value.bool neg,.slice p l.length cap][j]? = some u->W1.cell? ((⟨w.heap.size,0,none⟩:Addr).add j)=some u:=by rw [<- hW1];exact Ul _ _ _
  have c0:W1.cell? ⟨w.heap.size,0,none⟩=some (.bool neg):=by simpa [Addr.add] using hcl1 0 _ rfl
  have c1:W1.cell? ⟨w.heap.size,1,none⟩=some (.slice p l.length cap):=by simpa [Addr.add] using hcl1 1 _ rfl
  clear hcl1
  have HW1:=Lib.hid hb1
  have hfr:Lib.IsBuilder 151 5 (w.heap.size+1) (w.heap.size+1) (Lib.byteCells []) (W1.alloc (.cells #[.pointer none,.slice none 0 0] 151)):=by
   have:=Lib.fresh_isBuilder 151 5 W1
   rw [hs1] at this;exact this
  have hb2:Below (w.heap.size+1) W1 (W1.alloc (.cells #[.pointer none,.slice none 0 0] 151)):=by
   have:=(Below.refl W1.heap.size W1).alloc (Nat.le_refl _) (.cells #[.pointer none,.slice none 0 0] 151)
   rw [hs1] at this;exact this
  obtain ⟨W2,hW2⟩:∃ W2,W1.alloc (.cells #[.pointer none,.slice none 0 0] 151)=W2:=⟨_,rfl⟩
  have hs2:W2.heap.size=w.heap.size+2:=by rw [<- hW2];simp [hs1]
  rw [hW2] at hfr hb2
  have HFR:=Lib.hid hfr
  have HB2:=Lib.hid hb2
  have d0:=(A2 (i:=0) (hb2.block w.heap.size (by omega))).trans c0
  have d1:=(A2 (i:=1) (hb2.block w.heap.size (by omega))).trans c1
  clear hfr hb2 hb1
  have HTAB:Hid (∀ wr,Below w.heap.size w wr->Lib.TabIs Tryz.prog wr "internal/strconv.uint64pow10" .u64 Lib.pow10Tab):=Lib.hid fun wr hb=>tab_of (by kernel_rfl) (HF.out.below hb).1.fz
  obtain ⟨neg0,hneg⟩:∃ neg0,neg=neg0:=⟨_,rfl⟩
  rw [show Pr neg l=Pr neg0 l from by rw [hneg]]
  have HNEG:=Lib.hid hneg
  clear hneg
  cases neg with
  |true =>
   go_wp2_with fail
   refine (bld_byte (w.heap.size+1) (w.heap.size+1) [] 45 _ HFR.out (by simp) (by rw [hs2];omega)).mono ?_
   rintro e W3 ⟨rfl,h3,hb3⟩
   have hfr:Lib.IsBuilder 151 5 (w.heap.size+1) (w.heap.size+1) (Lib.byteCells [45]) W3 := .inr h3
   have hb4:=HB2.out.trans (hb3.mono (Nat.le_refl _))
   have d2:=(A2 (i:=1) (hb4.block w.heap.size (by omega))).trans c1
   have hs3:w.heap.size+2<=W3.heap.size:=h3.lt
   clear HFR HB2 d0 d1
   have HFR:=Lib.hid hfr
   have HB2:=Lib.hid hb4
   clear hfr hb4 h3 hb3
   go_wp2_with fail
   go_loopw [4] (fun i wr=>∃ j:Nat,j<=l.length/\i = .int .i64 ((j:Int)-1)/\Lib.IsBuilder 151 5 (w.heap.size+1) (w.heap.size+1) (Lib.byteCells ([45]++J9 (l.drop j))) wr/\Below (w.heap.size+1) W1 wr) (fun i _=>(intOf i+1).toNat)
   case atStart=>exact ⟨l.length,Nat.le_refl _,rfl,by rw [List.drop_length,J9,List.append_nil];exact HFR.out,HB2.out⟩
   case round =>
    obtain ⟨j,hj,rfl,hbl,hbr⟩:=hrel
    have HBL:=Lib.hid hbl
    have HBR:=Lib.hid hbr
    have e1:=(A2 (i:=1) (hbr.block w.heap.size (by omega))).trans c1
    have hsr:w.heap.size+2<=wr.heap.size:=by
     rcases hbl with h|h<;>exact h.lt
    have htab:Lib.TabIs Tryz.prog wr "internal/strconv.uint64pow10" .u64 Lib.pow10Tab:=HTAB.out wr ((HW1.out).trans (hbr.mono (Nat.le_succ _)))
    have HT:=Lib.hid htab
    clear hbl hbr htab
    by_cases hlt:0<j
    ·obtain ⟨j,rfl⟩:∃ i,j=i+1:=⟨j-1,by omega⟩
     have hj1:((j+1:Nat):Int)-1=(j:Int):=by omega
     rw [hj1]
     obtain ⟨b,o,rfl,c2⟩:=HEL.out j (by omega)
     have hbw:=Gs c2
     have e2:=(A2 (i:=o+j) (HBR.out.block b (by omega))).trans ((A2 (i:=o+j) (HW1.out.block b hbw)).trans c2)
     have hx:Af (l.getD j 0):=Hz HOK.out (by omega)
     have HX:=Lib.hid (Nv hx)
     have HD:=Lib.hid (List.drop_eq_getElem_cons (show j<l.length by omega))
     have HG:Hid (l[j]'(by omega)=l.getD j 0):=Lib.hid (by rw [List.getD_eq_getElem?_getD,List.getElem?_eq_getElem (by omega)];rfl)
     obtain ⟨x,hxx⟩:∃ x,l.getD j 0=x:=⟨_,rfl⟩
     rw [hxx] at e2 hx HX HG
     have hz:=Gs e2
     have hw2:IntKind.i64.wrap ((j:Int)-1)=(j:Int)-1:=by rw [IntKind.wrap_i64];omega
     have hwx:IntKind.i64.wrap x=x:=by rw [IntKind.wrap_i64];have:=hx.1;have:=hx.2;omega
     clear c2
     go_wp2_with fail
     refine (Tryz.strconv_Itoa x (by have:=hx.1;omega) (by have:=hx.2;omega) wr HT.out).mono ?_
     rintro e w5 ⟨rfl,k5,os5,hw5⟩
     have hb5:Below wr.heap.size wr w5:=by rw [hw5];exact ⟨rfl,rfl,rfl,by show wr.heap.size<=(wr.heap++os5).size;rw [Array.size_append];omega,fun q hq=>by show (wr.heap++os5)[q]? = _;rw [Array.getElem?_append_left hq]⟩
     obtain ⟨ds,hds⟩:∃ ds,Lib.itoa x=ds:=⟨_,rfl⟩
     rw [hds] at HX |-
     obtain ⟨S,hS⟩:∃ S,(⟨ds.toArray⟩:ByteArray)=S:=⟨_,rfl⟩
     have hSs:S.size=ds.length:=by rw [<- hS];simp [ByteArray.size]
     have hSc:S.data.toList=ds:=by rw [<- hS]
     have HBL5:=Lib.hid (Ug HBL.out hb5)
     have HBR5:=Lib.hid (HBR.out.trans (hb5.mono (by omega)))
     have hs5:w.heap.size+2<=w5.heap.size:=Nat.le_trans hsr hb5.size
     have f1:=(A2 (i:=1) (HBR5.out.block w.heap.size (by omega))).trans c1
     have HSC:=Lib.hid hSc
     have HDS:=Lib.hid hds
     rw [hS]
     have hX9:=HX.out
     rw [<- hSs] at hX9
     clear e2 e1 hw5 hb5 HBL HBR HT hS hSc hds
     by_cases hl2:j+1<l.length
     ·have hl3:(j:Int)<(l.length:Int)-1:=by omega
      have HE:Hid (Lib.byteCells ([45]++J9 (l.drop (j+1)))++Lib.strCells (ByteArray.extract ⟨#[48,48,48,48,48,48,48,48,48]⟩ ds.length 9)++Lib.strCells S=Lib.byteCells ([45]++J9 (l.drop j))):=Lib.hid (by
       rw [HD.out,HG.out,Ps (by intro e;have:=congrArg List.length e;simp at this;omega),Lib.strCells_eq,Lib.strCells_eq,HSC.out,zext _ (by rw [<- hSs];exact hX9),HDS.out,<- Lib.byteCells_append,<- Lib.byteCells_append]
       simp only [List.append_assoc])
      have HL:Hid ((Lib.byteCells ([45]++J9 (l.drop (j+1)))).length<=9000001):=Lib.hid (by
       have:=L0 (l:=l.drop (j+1)) fun z hz=>HOK.out z (List.mem_of_mem_drop hz)
       rw [List.length_drop] at this
       simp [Lib.byteCells_length];omega)
      have HZ:Hid (ByteArray.size (ByteArray.extract ⟨#[48,48,48,48,48,48,48,48,48]⟩ ds.length 9)<=9):=Lib.hid (zsize _)
      go_wp2_with fail
      refine (F3 (w.heap.size+1) (w.heap.size+1) _ _ w5 HBL5.out (by have:=HL.out;have:=HZ.out;omega) (by omega)).mono ?_
      rintro e w6 ⟨rfl,h6,hb6⟩
      have hs6:w.heap.size+2<=w6.heap.size:=h6.lt
      have H6:=Lib.hid h6
      have HBR6:=Lib.hid (HBR5.out.trans hb6)
      clear h6 hb6
      go_wp2_with fail
      refine (F3 (w.heap.size+1) (w.heap.size+1) _ S w6 (.inr H6.out) (by have:=HL.out;have:=HZ.out;rw [List.length_append,Lib.strCells_length];omega) (by omega)).mono ?_
      rintro e w7 ⟨rfl,h7,hb7⟩
      have H7:=Lib.hid h7
      have HBR7:=Lib.hid (HBR6.out.trans hb7)
      clear h7 hb7
      go_wp2
      go_round
      case rel =>
       exact ⟨j,by omega,by go_num,by rw [<- HE.out];exact .inr H7.out,HBR7.out⟩
      case measure=>simp [intOf]
     ·have hl3:¬ (j:Int)<(l.length:Int)-1:=by omega
      have HE:Hid (Lib.byteCells ([45]++J9 (l.drop (j+1)))++Lib.strCells S=Lib.byteCells ([45]++J9 (l.drop j))):=Lib.hid (by
       rw [HD.out,HG.out,List.drop_of_length_le (show l.length<=j+1 by omega),Lib.strCells_eq,HSC.out,<- Lib.byteCells_append,J9,J9,HDS.out]
       simp only [List.append_nil])
      have HL:Hid ((Lib.byteCells ([45]++J9 (l.drop (j+1)))).length<=9000001):=Lib.hid (by
       have:=L0 (l:=l.drop (j+1)) fun z hz=>HOK.out z (List.mem_of_mem_drop hz)
       rw [List.length_drop] at this
       simp [Lib.byteCells_length];omega)
      go_wp2_with fail
      refine (F3 (w.heap.size+1) (w.heap.size+1) _ S w5 HBL5.out (by have:=HL.out;omega) (by omega)).mono ?_
      rintro e w7 ⟨rfl,h7,hb7⟩
      have H7:=Lib.hid h7
      have HBR7:=Lib.hid (HBR5.out.trans hb7)
      clear h7 hb7
      go_wp2
      go_round
      case rel=>exact ⟨j,by omega,by go_num,by rw [<- HE.out];exact .inr H7.out,HBR7.out⟩
      case measure=>simp [intOf]
    ·obtain rfl:j=0:=by omega
     go_wp2_with fail
     refine (Tryz.Builder_String_any (w.heap.size+1) (w.heap.size+1) _ wr HBL.out (by omega)).mono ?_
     rintro e w7 ⟨rfl,hb7⟩
     have HB7:=Lib.hid hb7
     clear hb7
     go_wp2
     go_ret
     refine ⟨?_,HW1.out.trans ((HBR.out.trans HB7.out).mono (Nat.le_succ _))⟩
     have e:Pr neg0 l=[45]++J9 (l.drop 0):=by rw [<- HNEG.out];unfold Pr;rw [if_neg hne];rfl
     rw [e]
     rfl
  |false =>
   go_wp2_with fail
   go_loopw [4] (fun i wr=>∃ j:Nat,j<=l.length/\i = .int .i64 ((j:Int)-1)/\Lib.IsBuilder 151 5 (w.heap.size+1) (w.heap.size+1) (Lib.byteCells ([]++J9 (l.drop j))) wr/\Below (w.heap.size+1) W1 wr) (fun i _=>(intOf i+1).toNat)
   case atStart=>exact ⟨l.length,Nat.le_refl _,rfl,by rw [List.drop_length,J9,List.append_nil];exact HFR.out,HB2.out⟩
   case round =>
    obtain ⟨j,hj,rfl,hbl,hbr⟩:=hrel
    have HBL:=Lib.hid hbl
    have HBR:=Lib.hid hbr
    have e1:=(A2 (i:=1) (hbr.block w.heap.size (by omega))).trans c1
    have hsr:w.heap.size+2<=wr.heap.size:=by
     rcases hbl with h|h<;>exact h.lt
    have htab:Lib.TabIs Tryz.prog wr "internal/strconv.uint64pow10" .u64 Lib.pow10Tab:=HTAB.out wr ((HW1.out).trans (hbr.mono (Nat.le_succ _)))
    have HT:=Lib.hid htab
    clear hbl hbr htab
    by_cases hlt:0<j
    ·obtain ⟨j,rfl⟩:∃ i,j=i+1:=⟨j-1,by omega⟩
     have hj1:((j+1:Nat):Int)-1=(j:Int):=by omega
     rw [hj1]
     obtain ⟨b,o,rfl,c2⟩:=HEL.out j (by omega)
     have hbw:=Gs c2
     have e2:=(A2 (i:=o+j) (HBR.out.block b (by omega))).trans ((A2 (i:=o+j) (HW1.out.block b hbw)).trans c2)
     have hx:Af (l.getD j 0):=Hz HOK.out (by omega)
     have HX:=Lib.hid (Nv hx)
     have HD:=Lib.hid (List.drop_eq_getElem_cons (show j<l.length by omega))
     have HG:Hid (l[j]'(by omega)=l.getD j 0):=Lib.hid (by rw [List.getD_eq_getElem?_getD,List.getElem?_eq_getElem (by omega)];rfl)
     obtain ⟨x,hxx⟩:∃ x,l.getD j 0=x:=⟨_,rfl⟩
     rw [hxx] at e2 hx HX HG
     have hz:=Gs e2
     have hw2:IntKind.i64.wrap ((j:Int)-1)=(j:Int)-1:=by rw [IntKind.wrap_i64];omega
     have hwx:IntKind.i64.wrap x=x:=by rw [IntKind.wrap_i64];have:=hx.1;have:=hx.2;omega
     clear c2
     go_wp2_with fail
     refine (Tryz.strconv_Itoa x (by have:=hx.1;omega) (by have:=hx.2;omega) wr HT.out).mono ?_
     rintro e w5 ⟨rfl,k5,os5,hw5⟩
     have hb5:Below wr.heap.size wr w5:=by rw [hw5];exact ⟨rfl,rfl,rfl,by show wr.heap.size<=(wr.heap++os5).size;rw [Array.size_append];omega,fun q hq=>by show (wr.heap++os5)[q]? = _;rw [Array.getElem?_append_left hq]⟩
     obtain ⟨ds,hds⟩:∃ ds,Lib.itoa x=ds:=⟨_,rfl⟩
     rw [hds] at HX |-
     obtain ⟨S,hS⟩:∃ S,(⟨ds.toArray⟩:ByteArray)=S:=⟨_,rfl⟩
     have hSs:S.size=ds.length:=by rw [<- hS];simp [ByteArray.size]
     have hSc:S.data.toList=ds:=by rw [<- hS]
     have HBL5:=Lib.hid (Ug HBL.out hb5)
     have HBR5:=Lib.hid (HBR.out.trans (hb5.mono (by omega)))
     have hs5:w.heap.size+2<=w5.heap.size:=Nat.le_trans hsr hb5.size
     have f1:=(A2 (i:=1) (HBR5.out.block w.heap.size (by omega))).trans c1
     have HSC:=Lib.hid hSc
     have HDS:=Lib.hid hds
     rw [hS]
     have hX9:=HX.out
     rw [<- hSs] at hX9
     clear e2 e1 hw5 hb5 HBL HBR HT hS hSc hds
     by_cases hl2:j+1<l.length
     ·have hl3:(j:Int)<(l.length:Int)-1:=by omega
      have HE:Hid (Lib.byteCells ([]++J9 (l.drop (j+1)))++Lib.strCells (ByteArray.extract ⟨#[48,48,48,48,48,48,48,48,48]⟩ ds.length 9)++Lib.strCells S=Lib.byteCells ([]++J9 (l.drop j))):=Lib.hid (by
       rw [HD.out,HG.out,Ps (by intro e;have:=congrArg List.length e;simp at this;omega),Lib.strCells_eq,Lib.strCells_eq,HSC.out,zext _ (by rw [<- hSs];exact hX9),HDS.out,<- Lib.byteCells_append,<- Lib.byteCells_append]
       simp only [List.append_assoc])
      have HL:Hid ((Lib.byteCells ([]++J9 (l.drop (j+1)))).length<=9000001):=Lib.hid (by
       have:=L0 (l:=l.drop (j+1)) fun z hz=>HOK.out z (List.mem_of_mem_drop hz)
       rw [List.length_drop] at this
       simp [Lib.byteCells_length];omega)
      have HZ:Hid (ByteArray.size (ByteArray.extract ⟨#[48,48,48,48,48,48,48,48,48]⟩ ds.length 9)<=9):=Lib.hid (zsize _)
      go_wp2_with fail
      refine (F3 (w.heap.size+1) (w.heap.size+1) _ _ w5 HBL5.out (by have:=HL.out;have:=HZ.out;omega) (by omega)).mono ?_
      rintro e w6 ⟨rfl,h6,hb6⟩
      have hs6:w.heap.size+2<=w6.heap.size:=h6.lt
      have H6:=Lib.hid h6
      have HBR6:=Lib.hid (HBR5.out.trans hb6)
      clear h6 hb6
      go_wp2_with fail
      refine (F3 (w.heap.size+1) (w.heap.size+1) _ S w6 (.inr H6.out) (by have:=HL.out;have:=HZ.out;rw [List.length_append,Lib.strCells_length];omega) (by omega)).mono ?_
      rintro e w7 ⟨rfl,h7,hb7⟩
      have H7:=Lib.hid h7
      have HBR7:=Lib.hid (HBR6.out.trans hb7)
      clear h7 hb7
      go_wp2
      go_round
      case rel =>
       exact ⟨j,by omega,by go_num,by rw [<- HE.out];exact .inr H7.out,HBR7.out⟩
      case measure=>simp [intOf]
     ·have hl3:¬ (j:Int)<(l.length:Int)-1:=by omega
      have HE:Hid (Lib.byteCells ([]++J9 (l.drop (j+1)))++Lib.strCells S=Lib.byteCells ([]++J9 (l.drop j))):=Lib.hid (by
       rw [HD.out,HG.out,List.drop_of_length_le (show l.length<=j+1 by omega),Lib.strCells_eq,HSC.out,<- Lib.byteCells_append,J9,J9,HDS.out]
       simp only [List.append_nil])
      have HL:Hid ((Lib.byteCells ([]++J9 (l.drop (j+1)))).length<=9000001):=Lib.hid (by
       have:=L0 (l:=l.drop (j+1)) fun z hz=>HOK.out z (List.mem_of_mem_drop hz)
       rw [List.length_drop] at this
       simp [Lib.byteCells_length];omega)
      go_wp2_with fail
      refine (F3 (w.heap.size+1) (w.heap.size+1) _ S w5 HBL5.out (by have:=HL.out;omega) (by omega)).mono ?_
      rintro e w7 ⟨rfl,h7,hb7⟩
      have H7:=Lib.hid h7
      have HBR7:=Lib.hid (HBR5.out.trans hb7)
      clear h7 hb7
      go_wp2
      go_round
      case rel=>exact ⟨j,by omega,by go_num,by rw [<- HE.out];exact .inr H7.out,HBR7.out⟩
      case measure=>simp [intOf]
    ·obtain rfl:j=0:=by omega
     go_wp2_with fail
     refine (Tryz.Builder_String_any (w.heap.size+1) (w.heap.size+1) _ wr HBL.out (by omega)).mono ?_
     rintro e w7 ⟨rfl,hb7⟩
     have HB7:=Lib.hid hb7
     clear hb7
     go_wp2
     go_ret
     refine ⟨?_,HW1.out.trans ((HBR.out.trans HB7.out).mono (Nat.le_succ _))⟩
     have e:Pr neg0 l=[]++J9 (l.drop 0):=by rw [<- HNEG.out];unfold Pr;rw [if_neg hne];rfl
     rw [e]
     rfl
theorem Ab4 (neg:Bool) (l:List Int) (hl:l.length<=1000000) (hok:∀ x∈l,Af x):Am 64 [whP neg l] ⟨[],[]⟩ (.ret (Bf ⟨(Pr neg l).toArray⟩)) ⟨[],[]⟩:=by
 refine ⟨enters_of Tryz.func64 rfl rfl,fun K w vs hI hA=>?_⟩
 simp only [Ao,Rep] at hA
 obtain ⟨u,us,rfl,⟨cs,rfl,u0,us0,rfl,r0,u1,us1,rfl,r1,rfl⟩,rfl⟩:=hA
 simp only [Ci] at r0
 obtain ⟨rfl,_⟩:=r0
 obtain ⟨p,cap,rfl,hcap,hmax,hel⟩:=lims_of r1
 refine (text_any neg l K w hI hl hok p cap hcap hmax hel).mono ?_
 rintro e w' ⟨rfl,hb⟩
 obtain ⟨h1,h2⟩:=hI.below hb
 exact ⟨K,h2,h1,_,rfl,by simp only [Rep,Ci];exact ⟨trivial,rfl⟩⟩
def digK:Nat->Nat->List UInt8
 |0,_=>[]
 |k+1,x=>digK k (x / 10)++[UInt8.ofNat (48+x % 10)]
theorem Uy:∀ k,digK k 0=List.replicate k 48
 |0=>rfl
 |k+1=>by rw [digK,Uy k,List.replicate_succ'];rfl
theorem Zz:∀ (k x:Nat),x<10 ^ (k+1)->digK (k+1) x=(List.replicate (k+1) 48).drop (Lib.decDigits x).length++Lib.decDigits x
 |0,x,h=>by
  have h':x<10:=by simpa using h
  rw [Ec h',digK,digK,show x % 10=x by omega];rfl
 |k+1,x,h=>by
  rw [digK]
  by_cases h1:x<10
  ·rw [show x / 10=0 by omega,Uy,Ec h1,show x % 10=x by omega]
   simp
  ·rw [Zz k (x / 10) (by rw [Nat.pow_succ] at h;omega),L9 h1]
   simp only [List.length_append,List.length_cons,List.length_nil,List.drop_replicate,List.append_assoc]
   congr 2
   omega
theorem Ae7:∀ (k n:Nat),10 ^ k<=n->Lib.decDigits n=Lib.decDigits (n / 10 ^ k)++digK k (n % 10 ^ k)
 |0,n,_=>by simp [digK]
 |k+1,n,h=>by
  have hp:0<10 ^ k:=Nat.pow_pos (by decide)
  have e:10 ^ (k+1)=10*10 ^ k:=by rw [Nat.pow_succ,Nat.mul_comm]
  have h1:¬ n<10:=by omega
  have h2:10 ^ k<=n / 10:=by rw [Nat.le_div_iff_mul_le (by decide)];omega
  rw [L9 h1,Ae7 k (n / 10) h2,digK,e,<- Nat.div_div_eq_div_mul,List.append_assoc]
  congr 2
  ·congr 1
   rw [Nat.mod_mul,Nat.add_mul_div_left _ _ (by decide),Nat.div_eq_of_lt (Nat.mod_lt _ (by decide)),Nat.zero_add]
  ·rw [Nat.mod_mul]
   congr 3
   omega
theorem txt_dec (n:Nat) (h0:n≠0):J9 (Al n)=Lib.decDigits n:=by
 induction n using Nat.strongRecOn with
 |ind n ih =>
  have hx:Af ((n % 1000000000:Nat):Int):=⟨by omega,by omega⟩
  rw [Ca h0]
  by_cases h:n<1000000000
  ·rw [show n / 1000000000=0 by omega,At,show n % 1000000000=n by omega]
   rw [J9,Nw]
  ·have hne:Al (n / 1000000000)≠[]:=by rw [Ne,C7];omega
   rw [Ps hne,ih _ (by omega) (by omega),Ae7 9 n (by omega),Nw]
   congr 1
   exact (Zz 8 _ (by omega)).symm
theorem text_dec (n:Int):Pr (decide (n<0)) (Al n.natAbs)=Lib.itoa n:=by
 unfold Pr
 by_cases h:n=0
 ·subst h;rw [if_pos (by rw [Int.natAbs_zero,At]),show (0:Int)=((0:Nat):Int) from rfl,Nw,Ec (by decide)];rfl
 ·rw [if_neg (by rw [C7];omega),txt_dec _ (by omega)]
  unfold Lib.itoa
  by_cases hn:n<0
  ·rw [decide_eq_true hn,if_pos rfl,if_pos hn];rfl
  ·rw [decide_eq_false hn,if_neg (by simp),if_neg hn,show n.natAbs=n.toNat by omega];rfl
def Dx:ByteArray:=⟨#[47]⟩
def fcT (p:Fr):ByteArray:=if p.2=1 then Cw p.1 else Cw p.1++Dx++Cw p.2
theorem Xp (n:Int) (hl:(Al n.natAbs).length<=1000000):Am 64 [whI n] ⟨[],[]⟩ (.ret (Bf (Cw n))) ⟨[],[]⟩:=by
 have h:=Ab4 (decide (n<0)) (Al n.natAbs) hl (Bq _)
 rw [text_dec] at h
 exact h
theorem X9 {n:Int} {k:Nat} (h:Lim k n.natAbs):(Cw n).size<=9*k+2:=by
 have h1:n.natAbs<10 ^ (9*k+1):=by
  unfold Lim at h
  rw [show (1000000000:Nat)=10 ^ 9 by rfl,<- Nat.pow_mul] at h
  exact Nat.lt_of_lt_of_le h (Nat.pow_le_pow_right (by decide) (by omega))
 have h2:=Fl (9*k) n.natAbs h1
 unfold Cw Lib.itoa
 split
 ·show (45::Lib.decDigits n.natAbs).length<=_
  simp;omega
 ·rename_i h3
  show (Lib.decDigits n.toNat).length<=_
  rw [show n.toNat=n.natAbs by omega];omega
theorem Aa2 {p:Fr} {k:Nat} (hp:Fit k p) (hk:k<=1000):Am 30 [fcP p] ⟨[],[]⟩ (.ret (Bf (fcT p))) ⟨[],[]⟩:=by
 obtain ⟨n,d⟩:=p
 obtain ⟨e,rfl⟩:∃ e:Nat,d=e:=⟨d.toNat,by have:=hp.red.1;simp only at this;omega⟩
 have hd:0<e:=by have:=hp.red.1;simp only at this;omega
 have h1:=Ag8 n e hd
 have hl1:(Al n.natAbs).length<=k:=hp.num.len
 have hl2:(Al (e:Int).natAbs).length<=k:=hp.den.len
 have h2:=Xp n (by omega)
 have h3:=Xp (e:Int) (by omega)
 have z1:=X9 hp.num
 have z2:=X9 hp.den
 simp only at z1 z2
 unfold fcT
 dsimp only [fcP]
 unfold J6 at h1 |-
 by_cases he:e=1
 ·rw [decide_eq_true he] at h1
  rw [if_pos (by rw [he];rfl)]
  refine Ad Tryz.func30 rfl rfl (Nat.le_of_ble_eq_true rfl) rfl (Nat.le_refl _) ?_
  repeat' (first|refine rl0 ?_|refine rs0 ?_ ?_<;>intro h|fail)
  refine wp1 h1 ?_
  repeat' (first|refine rl0 ?_|refine rs0 ?_ ?_<;>intro h|fail)
  refine wp1 h2 ?_
  repeat' (first|refine rl0 ?_|refine rs0 ?_ ?_<;>intro h|fail)
  rfl
 ·rw [decide_eq_false he] at h1
  rw [if_neg (by omega)]
  refine Ad Tryz.func30 rfl rfl (Nat.le_of_ble_eq_true rfl) rfl (Nat.le_refl _) ?_
  repeat' (first|refine rl0 ?_|refine rs0 ?_ ?_<;>intro h|fail)
  refine wp1 h1 ?_
  repeat' (first|refine rl0 ?_|refine rs0 ?_ ?_<;>intro h|fail)
  refine wp1n h2 ?_
  repeat' (first|refine rl0 ?_|refine rs0 ?_ ?_<;>intro h|fail)
  refine waf rfl rfl (fun _ _=>rfl) (by show (Cw n).size+1<=_;omega) ?_
  repeat' (first|refine rl0 ?_|refine rs0 ?_ ?_<;>intro h|fail)
  refine wp1n h3 ?_
  repeat' (first|refine rl0 ?_|refine rs0 ?_ ?_<;>intro h|fail)
  refine waf rfl rfl (fun _ _=>rfl) (by show (Cw n++Dx:ByteArray).size+(Cw (e:Int)).size<=_;rw [ByteArray.size_append];show (Cw n).size+1+_<=_;omega) ?_
  repeat' (first|refine rl0 ?_|refine rs0 ?_ ?_<;>intro h|fail)
  rfl
def evR (vars:List ByteArray) (vals:List Int) (x:Ex):(Int×ByteArray×Bool)×Int :=
 if Bm x≠0 then ((0,⟨#[]⟩,false),Bm x)
 else if vars.length≠vals.length\/Gd vars vals=false then ((0,⟨#[]⟩,false),2)
 else if A9 vars x=0 then ((0,⟨#[]⟩,false),351)
 else match evX vars vals x with
  |none=>((0,⟨#[]⟩,false),2)
  |some r=>if A9 vars x=2 then ((2,⟨#[]⟩,r.2),0) else ((1,fcT r.1,false),0)
@[reducible] def vrP (r:Int×ByteArray×Bool):PV:=vlP r.1 r.2.1 r.2.2
theorem kind_12 (vars:List ByteArray):∀ x:Ex,Good x->A9 vars x=0\/A9 vars x=1\/A9 vars x=2:=by
 have hz:∀ o,isZ o=1\/isZ o=2:=fun o=>by unfold isZ;split<;>omega
 intro x hx
 induction hx with
 |num n _ _=>exact .inr (.inl rfl)
 |name s _ =>
  rw [A9];split
  ·exact .inl rfl
  ·rw [if_neg (by omega)];split
   ·exact .inr (hz _)
   ·exact .inl rfl
 |yes=>exact .inr (.inr rfl)
 |no=>exact .inr (.inr rfl)
 |neg a _ ih =>
  rw [Hv,if_neg (by omega),if_neg (by omega)];split
  ·exact .inr (hz _)
  ·exact .inl rfl
 |not a _ ih =>
  rw [Hv,if_neg (by omega),if_neg (by omega)];split
  ·exact .inr (hz _)
  ·exact .inl rfl
 |bin o a b h1 h2 _ _ _ _ =>
  rw [Hv,if_neg (by omega),if_neg (by omega)];split
  ·exact .inr (hz _)
  ·exact .inl rfl
 |ite a b c _ _ _ _ ihb _ =>
  rw [Hv,if_neg (by omega),if_pos rfl,Bp,Bp,Bp,Bp]
  dsimp only
  split
  ·exact .inl rfl
  ·exact ihb
theorem Ac9 {vars:List ByteArray} {vals:List Int} (hl:vars.length=vals.length) (h:Gd vars vals=true):∀ v∈vals,-9999<=v/\v<=9999:=by
 intro v hv
 obtain ⟨i,hi,rfl⟩:=List.getElem_of_mem hv
 have h1:=List.all_eq_true.1 h i (List.mem_range.2 (by omega))
 unfold Ix at h1
 simp only [Bool.and_eq_true,decide_eq_true_eq] at h1
 have e:vals.getD i 0=vals[i]:=by rw [List.getD_eq_getElem?_getD,List.getElem?_eq_getElem hi];rfl
 rw [e] at h1
 exact ⟨h1.1.2,h1.2⟩
theorem eval_all (x:Ex) (vars:List ByteArray) (vals:List Int) (hs:x.small):Am 10 [exP x,Db vars,Cu vals] ⟨[],[]⟩ (.ret (.tup [vrP (evR vars vals x).1,Ah (evR vars vals x).2])) ⟨[],[]⟩:=by
 unfold evR
 by_cases hc:Bm x=0
 rotate_left
 ·rw [if_pos hc];exact eval_bad x vars vals hs hc
 rw [if_neg (fun h=>h hc)]
 by_cases ha:vars.length≠vals.length\/Gd vars vals=false
 ·rw [if_pos ha];exact U5 x vars vals hs hc ha
 rw [if_neg ha]
 simp only [not_or,Decidable.not_not,Bool.not_eq_false] at ha
 obtain ⟨hl,hr⟩:=ha
 by_cases hk:A9 vars x=0
 ·rw [if_pos hk];exact Afk x vars vals hs hc hl hr hk
 rw [if_neg hk]
 have hgx:=Acf hc
 have hvr:=Ac9 hl hr
 have hv:Uc vals:=fun v hv=>by have:=hvr v hv;omega
 have hnod:=X4 hc
 have he:=eval_do vars vals hl hv _ x (Nat.le_refl _) hgx hk hnod
 have hki:=Me hv hgx hk
 cases e:evX vars vals x with
 |none =>
  rw [e] at he
  exact Z8 x vars vals hs hc hl hr hk he
 |some r =>
  rw [e] at he
  obtain ⟨k1,k2⟩:=hki r e
  dsimp only
  rcases kind_12 vars x hgx with h|h|h
  ·exact absurd h hk
  ·rw [if_neg (by omega)]
   exact Z9 x vars vals hs hc hl hr h _ _ _ _ _ _ he (Aa2 (k1 h).1 (by omega))
  ·rw [if_pos h]
   exact Qk x vars vals hs hc hl hr h _ _ _ _ _ he
theorem letter {j:Int} (h0:0<=j) (h3:j<3):Ji Fx (sXyz.extract j.toNat (j+1).toNat)=true:=by
 have:j=0\/j=1\/j=2:=by omega
 rcases this with rfl|rfl|rfl<;>decide +kernel
theorem Vq {vars:List ByteArray} (hv:∀ j:Int,0<=j->j<3->Ji vars (sXyz.extract j.toNat (j+1).toNat)=true) (num:Bool) {n:Int} (h0:0<=n) (h1:n<256):A9 vars (Gv num n)=if num=true then 1 else 2:=by
 unfold Gv
 cases num with
 |false =>
  rw [if_pos rfl,if_neg (by simp)]
  have:n / 16 % 2=0\/n / 16 % 2=1:=by omega
  rcases this with h|h<;>rw [h]<;>rfl
 |true =>
  rw [if_neg (by simp),if_pos rfl]
  split
  ·have hm:=hv (n / 16 % 3) (by omega) (by omega)
   rw [A9,if_neg (by rintro ⟨_,h⟩;rw [hm] at h;cases h)];rfl
  ·rfl
theorem Aan {vars:List ByteArray} {g:Int->Nat->Ex×Nat}:∀ (ts:List Int) (a:Nat),(∀ t∈ts,∀ a,A9 vars (g t a).1=t)->Bp vars (Cd g ts a).1=ts
 |[],a,_=>rfl
 |t::ts,a,h=>by
  rw [Cd,Bp,h t List.mem_cons_self,Aan ts _ fun u hu=>h u (List.mem_cons_of_mem _ hu)]
theorem Vx {vars:List ByteArray} (hv:∀ j:Int,0<=j->j<3->Ji vars (sXyz.extract j.toNat (j+1).toNat)=true) (l:List UInt8):∀ (f:Nat) (want:Int) (a:Nat),want=1\/want=2->A9 vars (Jm l f want a).1=want
 |0,want,a,hw=>by
  have hn:=H0 l a
  rw [Jm];simp only
  rw [Vq hv _ hn.1 hn.2]
  rcases hw with rfl|rfl<;>simp [Ho]
 |f+1,want,a,hw=>by
  have hn:=H0 l a
  rw [Jm]
  split
  ·simp only
   rw [Vq hv _ hn.1 hn.2]
   rcases hw with rfl|rfl<;>simp [Ho]
  ·simp only
   have hf:∀ ts,K6 want ts=ts:=fun ts=>by unfold K6;rw [if_neg (by omega)]
   rw [hf]
   have hk:=fun ts (h:∀ t∈ts,t=1\/t=2) b=>Aan (vars:=vars) (g:=Jm l f) ts b fun t ht c=>Vx hv l f t c (h t ht)
   generalize B2 l a=n at *
   rcases hw with rfl|rfl
   ·rw [show Ho 1 n=true by simp [Ho]]
    unfold Ch
    rw [if_neg (by simp)]
    split
    ·rw [A9,hk _ (by simp),if_neg (by omega),if_neg (by omega)];rfl
    ·split
     ·have h4:n / 16 % 4=0\/n / 16 % 4=1\/n / 16 % 4=2\/n / 16 % 4=3:=by omega
      rw [A9,hk _ (by simp),if_neg (by simp only;omega),if_neg (by simp only;omega)]
      rcases h4 with h|h|h|h<;>rw [h]<;>rfl
     ·rw [A9,hk _ (by simp),if_neg (by omega),if_pos rfl];rfl
   ·rw [show Ho 2 n=false by simp [Ho]]
    unfold Ch
    rw [if_pos rfl]
    split
    ·have h4:n / 16 % 6=0\/n / 16 % 6=1\/n / 16 % 6=2\/n / 16 % 6=3\/n / 16 % 6=4\/n / 16 % 6=5:=by omega
     rw [A9,hk _ (by simp),if_neg (by simp only;omega),if_neg (by simp only;omega)]
     rcases h4 with h|h|h|h|h|h<;>rw [h]<;>rfl
    ·split
     ·rw [A9,hk _ (by simp),if_neg (by omega),if_neg (by omega)];rfl
     ·split
      ·have h4:n / 16 % 2=0\/n / 16 % 2=1:=by omega
       rw [A9,hk _ (by simp),if_neg (by simp only;omega),if_neg (by simp only;omega)]
       rcases h4 with h|h<;>rw [h]<;>rfl
      ·rw [A9,hk _ (by simp),if_neg (by omega),if_pos rfl];rfl
theorem Vz (l:List UInt8) {want:Int} (h:want=1\/want=2):A9 Fx (Sf l want)=want:=Vx (fun _=>letter) l 9 want 0 h
theorem Vr {g:Int->Nat->Ex×Nat} {m:Nat} (hg:∀ t a,(g t a).2=a+Bl (g t a).1/\(g t a).2+3*(m-(g t a).2)<=a+3*(m-a)+1):∀ (ts:List Int) (a:Nat),(Cd g ts a).2=a+(Id (Cd g ts a).1).length/\(Cd g ts a).2+3*(m-(Cd g ts a).2)<=a+3*(m-a)+ts.length
 |[],a=>by simp [Cd,Id]
 |t::ts,a=>by
  simp only [Cd]
  have h1:=hg t a
  have h2:=Vr hg ts (g t a).2
  rw [Bg]
  simp only [List.length_cons]
  omega
theorem Aax {l:List UInt8} {a m:Nat} (hl:l.length<=m) (h:B2 l a≠0):a<m:=by
 unfold B2 at h
 split at h
 ·rename_i h7;omega
 ·exact absurd rfl h
theorem Ahb (l:List UInt8) (m:Nat) (hl:l.length<=m):∀ (f:Nat) (want:Int) (a:Nat),(Jm l f want a).2=a+Bl (Jm l f want a).1/\(Jm l f want a).2+3*(m-(Jm l f want a).2)<=a+3*(m-a)+1
 |0,want,a=>by
  rw [Jm]
  simp only
  rw [(F5 _ _).2]
  omega
 |f+1,want,a=>by
  rw [Jm]
  split
  ·simp only
   rw [(F5 _ _).2]
   omega
  ·rename_i h5
   have ha:a<m:=Aax hl (fun h=>by rw [h] at h5;omega)
   have h1:=Vr (Ahb l m hl f) (K6 want (Ch (Ho want (B2 l a)) (B2 l a)).2) (a+1)
   have h2:=Ox (Ho want (B2 l a)) (B2 l a)
   rw [K7] at h1
   simp only
   rw [A7]
   omega
theorem Aas (l:List UInt8) (want:Int) (hl:l.length<=8):Bl (Sf l want)<=25:=by
 have:=Ahb l 8 hl 9 want 0
 unfold Sf;omega
theorem Vs {g:Int->Nat->Ex×Nat} {m:Nat} (hg:∀ t a,(g t a).1.hgt<=m-a+1/\a<=(g t a).2):∀ (ts:List Int) (a:Nat),∀ x∈(Cd g ts a).1,x.hgt<=m-a+1
 |[],a,x,h=>by simp [Cd] at h
 |t::ts,a,x,h=>by
  simp only [Cd] at h
  have h1:=hg t a
  rcases List.mem_cons.1 h with rfl|h
  ·exact h1.1
  ·have:=Vs hg ts _ x h;omega
theorem Ahc (l:List UInt8) (m:Nat) (hl:l.length<=m):∀ (f:Nat) (want:Int) (a:Nat),(Jm l f want a).1.hgt<=m-a+1
 |0,want,a=>by rw [Jm];rw [(F5 _ _).1];omega
 |f+1,want,a=>by
  rw [Jm]
  split
  ·show (Gv _ _).hgt<=_
   rw [(F5 _ _).1];omega
  ·rename_i h5
   have ha:a<m:=Aax hl (fun h=>by rw [h] at h5;omega)
   rw [Ex.hgt]
   have:=hgts_le (Vs (g:=Jm l f) (m:=m) (fun t b=>⟨Ahc l m hl f t b,by have:=(V9 l f t b).1;omega⟩) (K6 want (Ch (Ho want (B2 l a)) (B2 l a)).2) (a+1))
   omega
theorem Aat (l:List UInt8) (want:Int) (hl:l.length<=8):(Sf l want).hgt<=9:=by
 have:=Ahc l 8 hl 9 want 0
 unfold Sf;omega
def rdL:List (List DV)->Option (List Int)
 |[]=>some []
 |[.v (.int .u32 x)]::r=>match rdL r with
  |some l=>some (x::l)
  |none=>none
 |_::_=>none
def rdP:PV->Option (List Int)
 |.d (.sl 1 l)=>rdL l
 |.d (.v (.slice none 0 0))=>some []
 |_=>none
theorem rdL_ok:∀ {r:List (List DV)} {l:List Int},rdL r=some l->r=l.map B4
 |[],l,h=>by cases h;rfl
 |e::r,l,h=>by
  unfold rdL at h
  split at h
  ·rename_i he;cases he
  ·rename_i x r' he
   cases he
   split at h
   ·rename_i l' hl
    cases h
    rw [rdL_ok hl];rfl
   ·cases h
  ·cases h
theorem Wu {p:PV} {l:List Int} (h:rdP p=some l) (S:PS):Coe S p (B1 l):=by
 unfold rdP at h
 split at h
 ·rw [rdL_ok h];exact Ac _
 ·cases h;exact Fg
 ·cases h
theorem K3 {f:Nat} {args args':List PV} {S S':PS} {out:POut} (h:Am f args' S out S') (hc:Ga S args args'):Am f args S out S' :=
 ⟨h.1,fun K w vs hI hA=>h.2 K w vs hI (Ga.rep hI hc hA)⟩
def okB (l:List Int):Bool:=Nat.ble l.length 1000000&&l.all fun x=>decide (0<=x)&&decide (x<1000000000)
theorem Q1 {l:List Int} (h:okB l=true):l.length<=1000000/\∀ x∈l,Af x:=by
 simp only [okB,Bool.and_eq_true] at h
 refine ⟨Nat.le_of_ble_eq_true h.1,fun x hx=>?_⟩
 have:=List.all_eq_true.1 h.2 x hx
 simp only [Bool.and_eq_true,decide_eq_true_eq] at this
 exact this
def orcE:Nat->List PV->PS->Option (POut×PS):=fun f args S=>match S with
 |⟨[],[]⟩=>match args with
  |[.agg [.d (.v (.bool na)),m],.agg [.d (.v (.bool nb)),o]]=>bif Nat.beq f 79 then
    match rdP m,rdP o with
    |some m,some o=>bif okB m&&okB o then some (.ret (whP (!decide (na=nb) && !decide (Bs (mulL m o)=[])) (Bs (mulL m o))),⟨[],[]⟩) else none
    |_,_=>none
   else none
  |[.agg [.d (.v (.bool na)),m]]=>bif Nat.beq f 64 then
    match rdP m with
    |some m=>bif okB m then some (.ret (Bf ⟨(Pr na m).toArray⟩),⟨[],[]⟩) else none
    |none=>none
   else none
  |[m,.d (.v (.int .u32 b))]=>bif Nat.beq f 176 then
    match rdP m with
    |some m=>bif okB m&&okB [b]&&decide (0<b) then some (.ret (.tup [B1 (qL b m).1,.d (.v (.int .u32 (qL b m).2))]),⟨[],[]⟩) else none
    |none=>none
   else none
  |[m]=>bif Nat.beq f 146 then
    match rdP m with
    |some m=>bif okB m&&Nat.ble m.length 2 then some (.ret (.d (.v (.int .u64 (Aj m)))),⟨[],[]⟩) else none
    |none=>none
   else none
  |_=>none
 |_=>none
theorem Ahr:Pz orcE:=by
 intro f args S out S' h
 unfold orcE at h
 split at h
 ·split at h
  ·rename_i na m nb o
   cases hb:Nat.beq f 79<;>simp only [hb,cond_true,cond_false] at h
   ·cases h
   ·obtain rfl:=Nat.eq_of_beq_eq_true hb
    split at h
    ·rename_i m' o' h1 h2
     cases hk:(okB m'&&okB o')<;>simp only [hk,cond_true,cond_false] at h
     ·cases h
     ·cases h
      simp only [Bool.and_eq_true] at hk
      obtain ⟨k1,k2⟩:=Q1 hk.1
      obtain ⟨k3,k4⟩:=Q1 hk.2
      exact K3 (mul_do na nb m' o' k2 k4 k1 k3) (Ab (E0 (Ab (Ac _) (Ab (Wu h1 _) Ae))) (Ab (E0 (Ab (Ac _) (Ab (Wu h2 _) Ae))) Ae))
    ·cases h
  ·rename_i na m
   cases hb:Nat.beq f 64<;>simp only [hb,cond_true,cond_false] at h
   ·cases h
   ·obtain rfl:=Nat.eq_of_beq_eq_true hb
    split at h
    ·rename_i m' h1
     cases hk:okB m'<;>simp only [hk,cond_true,cond_false] at h
     ·cases h
     ·cases h
      obtain ⟨k1,k2⟩:=Q1 hk
      exact K3 (Ab4 na m' k1 k2) (Ab (E0 (Ab (Ac _) (Ab (Wu h1 _) Ae))) Ae)
    ·cases h
  ·rename_i m b
   cases hb:Nat.beq f 176<;>simp only [hb,cond_true,cond_false] at h
   ·cases h
   ·obtain rfl:=Nat.eq_of_beq_eq_true hb
    split at h
    ·rename_i m' h1
     cases hk:(okB m'&&okB [b]&&decide (0<b))<;>simp only [hk,cond_true,cond_false] at h
     ·cases h
     ·cases h
      simp only [Bool.and_eq_true,decide_eq_true_eq] at hk
      obtain ⟨k1,k2⟩:=Q1 hk.1.1
      obtain ⟨_,k4⟩:=Q1 hk.1.2
      exact K3 (Tg m' b k1 k2 (k4 b (by simp)) hk.2) (Ab (Wu h1 _) (Ab (Ac _) Ae))
    ·cases h
  ·rename_i m _
   cases hb:Nat.beq f 146<;>simp only [hb,cond_true,cond_false] at h
   ·cases h
   ·obtain rfl:=Nat.eq_of_beq_eq_true hb
    split at h
    ·rename_i m' h1
     cases hk:(okB m'&&Nat.ble m'.length 2)<;>simp only [hk,cond_true,cond_false] at h
     ·cases h
     ·cases h
      simp only [Bool.and_eq_true] at hk
      obtain ⟨k1,k2⟩:=Q1 hk.1
      exact K3 (Tx m' (Nat.le_of_ble_eq_true hk.2) k2) (Ab (Wu h1 _) Ae)
    ·cases h
  ·cases h
 ·cases h
noncomputable def runV (vars:List ByteArray) (vals:List Int) (x:Ex):Option (POut×PS):=Afj Tryz.prog orcE (fun _=>false) 1000 29 [.agg [Db vars,Cu vals],exP x] ⟨[],[]⟩
theorem Y5 {vars:List ByteArray} {vals:List Int} {x:Ex} {out:POut} (h:runV vars vals x=some (out,⟨[],[]⟩)):Am 29 [Ady vars vals,exP x] ⟨[],[]⟩ out ⟨[],[]⟩:=I8 Ahr h
theorem rv1:runV [⟨#[120]⟩] [3] (nd 10 [eX,e2])=some (.ret (.agg (resC false [3] false [2] false)),⟨[],[]⟩):=by kernel_rfl
theorem rv2:runV [⟨#[120]⟩] [0] (nd 10 [e1,eX])=some (.panic divV,⟨[],[]⟩):=by kernel_rfl
theorem rv3:runV [⟨#[120]⟩] [0] (nd 18 [nd 11 [eX,e0],nd 15 [nd 10 [e1,eX],e0]])=some (.ret (.agg [An false,.d (.v (.slice none 0 0)),An false,.d (.v (.slice none 0 0)),An true]),⟨[],[]⟩):=by kernel_rfl
theorem tx1:Afj Tryz.prog orcE (fun _=>false) 1000 30 [.agg [An false,B1 [3],An false,B1 [2]]] ⟨[],[]⟩=some (.ret (Bf ⟨#[51,47,50]⟩),⟨[],[]⟩):=by kernel_rfl
theorem ev1:Am 10 [exP (nd 10 [eX,e2]),Db [⟨#[120]⟩],Cu [3]] ⟨[],[]⟩ (.ret (.tup [vlP 1 ⟨#[51,47,50]⟩ false,Ah 0])) ⟨[],[]⟩ :=
 Z9 _ _ _ (C4 (by decide +kernel)) (by decide +kernel) (by decide +kernel) (by decide +kernel) (by decide +kernel) _ _ _ _ _ _ (Y5 rv1) (I8 Ahr tx1)
theorem ev2:Am 10 [exP (nd 10 [e1,eX]),Db [⟨#[120]⟩],Cu [0]] ⟨[],[]⟩ (.ret (.tup [vlP 0 ⟨#[]⟩ false,Ah 2])) ⟨[],[]⟩ :=
 Z8 _ _ _ (C4 (by decide +kernel)) (by decide +kernel) (by decide +kernel) (by decide +kernel) (by decide +kernel) (Y5 rv2)
theorem ev3:Am 10 [exP (nd 18 [nd 11 [eX,e0],nd 15 [nd 10 [e1,eX],e0]]),Db [⟨#[120]⟩],Cu [0]] ⟨[],[]⟩ (.ret (.tup [vlP 2 ⟨#[]⟩ true,Ah 0])) ⟨[],[]⟩ :=
 Qk _ _ _ (C4 (by decide +kernel)) (by decide +kernel) (by decide +kernel) (by decide +kernel) (by decide +kernel) false [] false [] true
  (Ed (Y5 rv3) (E0 (Ab (Ac _) (Ab Fg (Ab (Ac _) (Ab Fg (Ab (Ac _) Ae)))))))
theorem ev4:Am 10 [exP e1,Db [⟨#[120]⟩,⟨#[120]⟩],Cu [1,1]] ⟨[],[]⟩ (.ret (.tup [vlP 0 ⟨#[]⟩ false,Ah 2])) ⟨[],[]⟩ :=
 U5 _ _ _ (C4 (by decide +kernel)) (by decide +kernel) (.inr (by decide +kernel))
theorem Zo {x:Ex} {s:ByteArray} (hs:Rb x=true) (h:Adv x=(s,0)):Am 72 [exP x] ⟨[],[]⟩ (.ret (.tup [Bf s,Ah 0])) ⟨[],[]⟩:=by
 have:=ptext_do x (C4 hs)
 rwa [h] at this
theorem ty_of {x:Ex} {vars:List ByteArray} {a b:Int} (hs:Rb x=true) (h:Tv vars x=(a,b)):Am 18 [exP x,Db vars] ⟨[],[]⟩ (.ret (.tup [Ah a,Ah b])) ⟨[],[]⟩:=by
 have:=type_do vars x (C4 hs)
 rwa [h] at this
theorem nm_of {x:Ex} {l:List ByteArray} {b:Int} (hs:Rb x=true) (h:O2 x=(l,b)):Am 17 [exP x] ⟨[],[]⟩ (.ret (.tup [Db l,Ah b])) ⟨[],[]⟩:=by
 have:=names_do x (C4 hs)
 rwa [h] at this
def wx1:Ex:=nd 9 [nd 7 [e1,e2],eX]
def wx2:Ex:=nd 8 [e1,nd 8 [e2,e3]]
def wx3:Ex:=nd 6 [nd 6 [eT]]
def wx4:Ex:=nd 7 [nd 19 [eT,e1,e2],e3]
def wx5:Ex:=nd 7 [e1,nd 19 [eT,e2,e3]]
def wx6:Ex:=nd 17 [nd 13 [e1,e2],eT]
def wx7:Ex:=nd 5 [nd 7 [e1,e2]]
def ws1:ByteArray:=⟨#[40,32,49,32,43,32,50,32,41,32,42,32,120]⟩
def ws2:ByteArray:=⟨#[49,32,45,32,40,32,50,32,45,32,51,32,41]⟩
def ws3:ByteArray:=⟨#[110,111,116,32,110,111,116,32,116,114,117,101]⟩
def ws4:ByteArray:=⟨#[40,32,105,102,32,116,114,117,101,32,116,104,101,110,32,49,32,101,108,115,101,32,50,32,41,32,43,32,51]⟩
def ws5:ByteArray:=⟨#[49,32,43,32,40,32,105,102,32,116,114,117,101,32,116,104,101,110,32,50,32,101,108,115,101,32,51,32,41]⟩
def ws6:ByteArray:=⟨#[49,32,60,32,50,32,97,110,100,32,116,114,117,101]⟩
def ws7:ByteArray:=⟨#[45,32,40,32,49,32,43,32,50,32,41]⟩
def factsW:List If:=[
 (36,[Bf txt1,exP (nd 8 [nd 7 [e1,nd 9 [e2,eX]],e3]),Ah 7],.ret (An true)),(36,[Bf txt2,exP (nd 13 [e1,eX]),Ah 3],.ret (An true)),(36,[Bf txt4,exP (nd 7 [e1,nd 5 [e2]]),Ah 4],.ret (An true)),
 (36,[Bf txt5,exP (nd 6 [e1]),Ah 2],.ret (An true)),(37,[Bf txt3,Ah 3,Ah 350],.ret (An true)),(37,[Bf txt6,Ah 0,Ah 350],.ret (An true)),
 (72,[exP wx1],.ret (.tup [Bf ws1,Ah 0])),(72,[exP wx2],.ret (.tup [Bf ws2,Ah 0])),(72,[exP wx3],.ret (.tup [Bf ws3,Ah 0])),(72,[exP wx4],.ret (.tup [Bf ws4,Ah 0])),
 (72,[exP wx5],.ret (.tup [Bf ws5,Ah 0])),(72,[exP wx6],.ret (.tup [Bf ws6,Ah 0])),(72,[exP wx7],.ret (.tup [Bf ws7,Ah 0])),
 (18,[exP (nd 7 [eX,e1]),Db [⟨#[120]⟩]],.ret (.tup [Ah 1,Ah 0])),(18,[exP eX,Db []],.ret (.tup [Ah 0,Ah 351])),(18,[exP (nd 6 [e1]),Db []],.ret (.tup [Ah 0,Ah 351])),(18,[exP (nd 19 [eT,e1,eF]),Db []],.ret (.tup [Ah 0,Ah 351])),
 (10,[exP (nd 10 [eX,e2]),Db [⟨#[120]⟩],Cu [3]],.ret (.tup [vlP 1 ⟨#[51,47,50]⟩ false,Ah 0])),(10,[exP (nd 10 [e1,eX]),Db [⟨#[120]⟩],Cu [0]],.ret (.tup [vlP 0 ⟨#[]⟩ false,Ah 2])),
 (10,[exP (nd 18 [nd 11 [eX,e0],nd 15 [nd 10 [e1,eX],e0]]),Db [⟨#[120]⟩],Cu [0]],.ret (.tup [vlP 2 ⟨#[]⟩ true,Ah 0])),(10,[exP e1,Db [⟨#[120]⟩,⟨#[120]⟩],Cu [1,1]],.ret (.tup [vlP 0 ⟨#[]⟩ false,Ah 2])),
 (17,[exP (nd 7 [eY,nd 9 [eX,eY]])],.ret (.tup [Db [⟨#[121]⟩,⟨#[120]⟩],Ah 0]))]
theorem Afl:∀ e∈factsW,If.holds e :=
 A3 reads1 (A3 reads2 (A3 reads4 (A3 reads5 (A3 fails3 (A3 fails6
 (A3 (Zo (by decide +kernel) (by decide +kernel)) (A3 (Zo (by decide +kernel) (by decide +kernel)) (A3 (Zo (by decide +kernel) (by decide +kernel)) (A3 (Zo (by decide +kernel) (by decide +kernel))
 (A3 (Zo (by decide +kernel) (by decide +kernel)) (A3 (Zo (by decide +kernel) (by decide +kernel)) (A3 (Zo (by decide +kernel) (by decide +kernel))
 (A3 (ty_of (by decide +kernel) (by decide +kernel)) (A3 (ty_of (by decide +kernel) (by decide +kernel)) (A3 (ty_of (by decide +kernel) (by decide +kernel)) (A3 (ty_of (by decide +kernel) (by decide +kernel))
 (A3 ev1 (A3 ev2 (A3 ev3 (A3 ev4 (A3 (nm_of (by decide +kernel) (by decide +kernel)) Afm)))))))))))))))))))))
theorem Ai7:Afj Tryz.prog (orcT factsW) (fun _=>false) 1000 12 [] ⟨[],[]⟩=some (.ret (An true),⟨[],[]⟩):=by kernel_rfl
theorem works_do:Am 12 [] ⟨[],[]⟩ (.ret (An true)) ⟨[],[]⟩:=I8 (orcT_ok Afl) Ai7
@[reducible] def rowX (x:Ex):List DV:=[.v (.int .i64 x.op),.v (.int .i64 x.n),.v (.string x.name),.sl 4 (Ij x.args)]
theorem Ah9 (l:List Ex):Ij l=l.map rowX:=by rw [I9];exact List.map_congr_left fun x _=>exD_eq x
theorem Jj (op:Int) (p:Ex):Am 15 [Ah op,.d (.sl 4 [rowX p])] ⟨[],[]⟩ (.ret (exP (nd op [p]))) ⟨[],[]⟩:=by
 have h:=Ag3 op [p]
 rwa [show Ij [p]=[rowX p] from Ah9 _] at h
theorem Jk (op:Int) (p q:Ex):Am 15 [Ah op,.d (.sl 4 [rowX p,rowX q])] ⟨[],[]⟩ (.ret (exP (nd op [p,q]))) ⟨[],[]⟩:=by
 have h:=Ag3 op [p,q]
 rwa [show Ij [p,q]=[rowX p,rowX q] from Ah9 _] at h
theorem Ad4 (l:List UInt8):(((l.map fun b=>[DV.v (.int .u8 b.toNat)]).take ((if (8:Int)<((l.map fun b=>[DV.v (.int .u8 b.toNat)]).length:Int) then (8:Int) else ((l.map fun b=>[DV.v (.int .u8 b.toNat)]).length:Int)).toNat)).drop (0:Int).toNat)=(l.take 8).map fun b=>[DV.v (.int .u8 b.toNat)]:=by
 simp only [Int.toNat_zero,List.drop_zero,List.length_map,<- List.map_take]
 congr 1
 split
 ·rfl
 ·rw [Int.toNat_natCast,List.take_length,List.take_of_length_le (by omega)]
theorem hgt_nd (o:Int) (l:List Ex):(nd o l).hgt=Ym l+1:=by rw [nd,Ex.hgt]
def wellV (vals:List Int):Prop:=∃ x y z,vals=[x,y,z]/\(-9999<=x/\x<=9999)/\(-9999<=y/\y<=9999)/\(-9999<=z/\z<=9999)
theorem Ad1 {vals:List Int} (h:wellV vals):vals.length=3/\Gd Fx vals=true:=by
 obtain ⟨x,y,z,rfl,hx,hy,hz⟩:=h
 refine ⟨rfl,?_⟩
 unfold Gd
 rw [show Fx.length=3 from rfl,show List.range 3=[0,1,2] from rfl]
 simp only [List.all_cons,List.all_nil,Bool.and_true,Bool.and_eq_true]
 unfold Ix
 refine ⟨?_,?_,?_⟩
 ·rw [show Ji (Fx.take 0) (Fx.getD 0 ⟨#[]⟩)=false by decide +kernel];simp;omega
 ·rw [show Ji (Fx.take 1) (Fx.getD 1 ⟨#[]⟩)=false by decide +kernel];simp;omega
 ·rw [show Ji (Fx.take 2) (Fx.getD 2 ⟨#[]⟩)=false by decide +kernel];simp;omega
theorem Sd (x:Ex) (vals:List Int) (hs:x.small):Am 14 [exP x,Cu vals] ⟨[],[]⟩ (.ret (.tup [vrP (evR Fx vals x).1,Ah (evR Fx vals x).2])) ⟨[],[]⟩:=by
 have h:=eval_all x Fx vals hs
 have hv:=vars_do
 generalize evR Fx vals x=R at *
 obtain ⟨⟨t,s,y⟩,e⟩:=R
 refine Ad Tryz.func14 rfl rfl (Nat.le_of_ble_eq_true rfl) rfl (Nat.le_refl _) ?_
 repeat' (first|refine rl2 ?_|refine rs2 ?_ ?_<;>intro h|fail)
 refine b0 (fun k=>Nat.beq k 6) [(0,[0])] ?_
 repeat' (first|refine rl7 ?_|refine rs7 ?_ ?_<;>intro h|fail)
 refine Ax hv ?_
 repeat' (first|refine rl7 ?_|refine rs7 ?_ ?_<;>intro h|fail)
 refine Ax h ?_
 repeat' (first|refine rl7 ?_|refine rs7 ?_ ?_<;>intro h|fail)
 repeat' (first|refine rl2 ?_|refine rs2 ?_ ?_<;>intro h|fail)
 rfl
theorem B9 (t:Int) (s:ByteArray) (y:Bool):eqAg Tryz.prog 42 [Ah t,Bf s,An y] [Ah t,Bf s,An y]=some true:=by
 have h:eqAg Tryz.prog 42 [Ah t,Bf s,An y] [Ah t,Bf s,An y]=match decide (t=t) with|true=>(match decide (s=s) with|true=>(match decide (y=y) with|true=>some true|false=>some false)|false=>some false)|false=>some false:=by kernel_rfl
 rw [h];simp
section
variable {N:Nat} {ops:Array Oper} {rest:List Oper} {o:Oper} {F:Nat->PV} {S:PS} {q:WRes->Prop} {ty yt:TypeId} {x y:Operand} {l l':List PV}
theorem wneI {b:Bool} (kk:WK Tryz.prog N ops rest (B8 N o.dst (.d (.v (.bool (!b)))) F) S q) (h:eqAg Tryz.prog ty l l'=some b) (hg:Ak ops F o=some true:=by exact rfl) (ho:o.op = .binOp .neq ty x y yt:=by exact rfl) (hx:evP F x = .agg l:=by exact rfl) (hy:evP F y = .agg l':=by exact rfl):WK Tryz.prog N ops (o::rest) F S q:=D8 hg (Aa7 ho hx hy h) kk
theorem Py {b:Bool} (kk:WK Tryz.prog N ops rest (B8 N o.dst (.d (.v (.bool b))) F) S q) (h:eqAg Tryz.prog ty l l'=some b) (hg:Ak ops F o=some true:=by exact rfl) (ho:o.op = .binOp .eql ty x y yt:=by exact rfl) (hx:evP F x = .agg l:=by exact rfl) (hy:evP F y = .agg l':=by exact rfl):WK Tryz.prog N ops (o::rest) F S q:=D8 hg (Aa6 ho hx hy h) kk
end
def Rq (l:List UInt8):ByteArray:=⟨l.toArray⟩
theorem Aet (t:List UInt8):(Rq t).data.toList=t:=rfl
def rd9 (t:List UInt8) (e:Nat):List Int:=if h:e=0 then [] else ((Ii ((t.take e).drop (e-9)) 0:Nat):Int)::rd9 t (e-9)
termination_by e
decreasing_by omega
theorem Lk (t:List UInt8):rd9 t 0=[]:=by rw [rd9];rfl
theorem S5 {t:List UInt8} {e:Nat} (h:e≠0):rd9 t e=((Ii ((t.take e).drop (e-9)) 0:Nat):Int)::rd9 t (e-9):=by rw [rd9,dif_neg h]
theorem rd9_ok {t:List UInt8} (ht:∀ c∈t,P4 c) (e:Nat):∀ x∈rd9 t e,Af x:=by
 induction e using Nat.strongRecOn with
 |ind e ih =>
  by_cases h:e=0
  ·subst h;rw [Lk];simp
  ·rw [S5 h]
   intro x hx
   rcases List.mem_cons.1 hx with rfl|hx
   ·have h1:=Ru (l:=(t.take e).drop (e-9)) fun c hc=>ht c (List.mem_of_mem_take (List.mem_of_mem_drop hc))
    have h2:10 ^ ((t.take e).drop (e-9)).length<=10 ^ 9:=Nat.pow_le_pow_right (by decide) (by simp;omega)
    exact ⟨by omega,by omega⟩
   ·exact ih _ (by omega) x hx
theorem rd9_val (t:List UInt8) (e:Nat) (he:e<=t.length):Aj (rd9 t e)=Ii (t.take e) 0:=by
 induction e using Nat.strongRecOn with
 |ind e ih =>
  by_cases h:e=0
  ·subst h;rw [Lk];rfl
  ·rw [S5 h,Aj,ih _ (by omega) (by omega)]
   have h1:t.take e=t.take (e-9)++(t.take e).drop (e-9):=by
    have:=List.take_append_drop (e-9) (t.take e)
    rw [List.take_take,Nat.min_eq_left (by omega)] at this
    exact this.symm
   rw [show Ii (t.take e) 0=Ii ((t.take e).drop (e-9)) (Ii (t.take (e-9)) 0) by rw [<- Ke,<- h1]]
   rw [G6 ((t.take e).drop (e-9)) (Ii (t.take (e-9)) 0)]
   by_cases h4:e<9
   ·rw [show e-9=0 by omega];simp [Ii]
   ·rw [show ((t.take e).drop (e-9)).length=9 by simp;omega];omega
theorem Ah3 (t:List UInt8) (e:Nat):9*(rd9 t e).length<=e+8:=by
 induction e using Nat.strongRecOn with
 |ind e ih =>
  by_cases h:e=0
  ·subst h;rw [Lk];simp
  ·rw [S5 h]
   have:=ih (e-9) (by omega)
   simp only [List.length_cons]
   by_cases h4:e<9
   ·rw [show e-9=0 by omega,Lk] at *;simp;omega
   ·omega
section
variable {P:Program} {b:Frame} {a:Act} {k:List Item} {cs:List Frame} {w:World}
theorem Gf {c:Code}:step P (lone (b.atR a (.code (.scope c)::k)) cs w) = .next (lone (b.atR a (.code c :: .inScope c::k)) cs w) :=
 step_lone_go (by simp [stepG,stepG.exec,Frame.atR])
theorem Tp {c:Code}:step P (lone (b.atR a (.inScope c::k)) cs w) = .next (lone (b.atR a k) cs w) :=
 step_lone_go (by simp [stepG,stepG.exec,Frame.atR])
theorem Ad2 {F:Fence} {n:Nat} {Q:Exit->Act->World->Prop} {c:Code} (h:c.wpIn F n P (Exit.noGoto Q) a w):(Code.scope c).wpIn F n P Q a w:=by
 intro b k cs hro hb hr
 have h0:(lone (b.atR a (.code (.scope c)::k)) cs w).fenced P F:=fenced_calm hb hr rfl
 obtain ⟨e,a₁,w₁,hq,harr⟩:=h b (.inScope c::k) cs hro hb hr
 cases e with
 |normal=>exact ⟨.normal,a₁,w₁,hq,(StepsIn.head h0 Gf harr).trans (.one (fenced_calm hb hr rfl) Tp)⟩
 |exit id=>exact ⟨.exit id,a₁,w₁,hq,.of_steps (.one h0 Gf) ⟨fun k' hk=>harr.1 k' (by simp [exitTo,hk]),fun hr2 hk=>harr.2 hr2 (by simp [exitTo,hk])⟩⟩
 |goto l=>exact hq.elim
 |ret=>exact ⟨_,a₁,w₁,hq,.of_steps (.one h0 Gf) harr⟩
 |panic ch=>exact ⟨_,a₁,w₁,hq,.of_steps (.one h0 Gf) harr⟩
 |outgrown=>exact ⟨_,a₁,w₁,hq,.of_steps (.one h0 Gf) harr⟩
end
def noGoQ (Q:Exit->(Nat->PV)->PS->Prop):Exit->(Nat->PV)->PS->Prop
 |.goto _,_,_=>False
 |e,F,S=>Q e F S
section
variable {P:Program} {N:Nat} {Q:Exit->(Nat->PV)->PS->Prop} {F:Nat->PV} {S:PS}
theorem pw_scope {c:Code} (h:PW P N c (noGoQ Q) F S):PW P N (.scope c) Q F S:=by
 refine ⟨fun ro mm K w a hI hF=>Ad2 (wpIn_mono (h.run ro mm K w a hI hF) ?_)⟩
 rintro e a' w' ⟨K',F',S',h1,h2,h3,h4,h5⟩
 cases e with
 |goto l=>exact h5.elim
 |normal=>exact ⟨K',F',S',h1,h2,h3,h4,h5⟩
 |exit id=>exact ⟨K',F',S',h1,h2,h3,h4,h5⟩
 |ret=>exact ⟨K',F',S',h1,h2,h3,h4,h5⟩
 |panic c=>exact ⟨K',F',S',h1,h2,h3,h4,h5⟩
 |outgrown=>exact ⟨K',F',S',h1,h2,h3,h4,h5⟩
theorem pw_label {l:Nat} (h:Q .normal F S):PW P N (.label l) Q F S:=⟨fun ro mm K w a hI hF=>wpIn_label (QC.refl hI hF h)⟩
end
@[reducible] def byP (b:UInt8):List DV:=[.v (.int .u8 b.toNat)]
theorem Ahh {o:Oper} {F:Nat->PV} {S:PS} {x:Operand} {s:ByteArray} (ho:o.op = .convert 9 25 x) (hx:evP F x = .d (.v (.string s))) (hs:s.size<=9223372036854775807):OpS Tryz.prog o F S (.d (.sl 1 (s.data.toList.map byP))) S :=
 OpS.val fun K w ρ hI h=>by
  have h1:=h x (by simp [ho,Op.operands])
  rw [hx] at h1
  have h1:=Br h1
  have hrun:=run_bytes_of_string (P:=Tryz.prog) w 9 25 5 s (by kernel_rfl) (by kernel_rfl) (by kernel_rfl)
  have hge:=grownCap_ge w s.size 0 5
  have hle:=grownCap_le_maxLen w s.size 0 5 (by simpa [maxLen] using hs)
  have hB:Below w.heap.size w (w.drew.alloc (.cells (bytesRow s (grownCap w s.size 0 5)) 5 ((bytesRow s (grownCap w s.size 0 5)).size,(bytesRow s (grownCap w s.size 0 5)).size+1))):=((Below.refl _ _).drew).alloc (Nat.le_refl _) _
  obtain ⟨e1,e2⟩:=hI.below hB
  refine ⟨_,_,K,by simp only [execOp,ho,h1,Sem.run_bind,hrun];rfl,e2,e1,?_⟩
  have hl:(s.data.toList.map byP).length=s.size:=by rw [List.length_map];rfl
  simp only [Rep,Ci]
  refine ⟨_,_,by rw [hl],by rw [hl];exact hge,by simpa [maxLen] using hle,fun _=>⟨w.heap.size,0,rfl,R3 hI (by simp) _,Dw.2 ⟨fun e he=>?_,?_⟩⟩⟩
  ·obtain ⟨b,_,rfl⟩:=List.mem_map.1 he;rfl
  ·have hflat:(s.data.toList.map byP).flatten=s.data.toList.map fun b=>DV.v (.int .u8 b.toNat):=by
    generalize s.data.toList=l
    induction l with
    |nil=>rfl
    |cons b l ih=>simp only [List.map_cons,List.flatten_cons,ih];rfl
   rw [hflat]
   refine G2 (us:=s.data.toList.map fun b=>Value.int .u8 b.toNat) (fun j v hj=>?_) ?_
   ·obtain ⟨b,hb,rfl⟩:∃ b,s.data.toList[j]? = some b/\Value.int .u8 b.toNat=v:=by simpa [List.getElem?_map,Option.map_eq_some_iff] using hj
    have hlt:j<s.data.size:=by have:=(List.getElem?_eq_some_iff.1 hb).1;simpa using this
    have hb2:s.data[j]=b:=by have:=(List.getElem?_eq_some_iff.1 hb).2;simpa using this
    have h3:=bytesRow_at s (grownCap w s.size 0 5) j hlt
    rw [hb2] at h3
    rw [Nat.zero_add]
    exact (cell_of_row _ _ j _ _ _ (heap_alloc_new w.drew _)).trans h3
   ·have:∀ l:List UInt8,Ao K (w.drew.alloc (.cells (bytesRow s (grownCap w s.size 0 5)) 5 ((bytesRow s (grownCap w s.size 0 5)).size,(bytesRow s (grownCap w s.size 0 5)).size+1))) ((l.map fun b=>DV.v (.int .u8 b.toNat)).map .d) (l.map fun b=>Value.int .u8 b.toNat):=by
     intro l
     induction l with
     |nil=>simp [Ao]
     |cons b l ih=>simp only [List.map_cons,Ao];exact ⟨_,_,rfl,Dv rfl,ih⟩
    exact this _
section
variable {N:Nat} {ops:Array Oper} {rest:List Oper} {o:Oper} {F:Nat->PV} {S:PS} {q:WRes->Prop}
theorem wbytes {x:Operand} {s:ByteArray} (hs:s.size<=9223372036854775807) (kk:WK Tryz.prog N ops rest (B8 N o.dst (.d (.sl 1 (s.data.toList.map byP))) F) S q) (hg:Ak ops F o=some true:=by exact rfl) (ho:o.op = .convert 9 25 x:=by exact rfl) (hx:evP F x = .d (.v (.string s)):=by exact rfl):WK Tryz.prog N ops (o::rest) F S q:=D8 hg (Ahh ho hx hs) kk
end
end Go.Proofs.YtjagmmmcibdibaaGreatDoor
namespace Go.Proofs.YtjagmmmcibdibaaGreatDoor.D4
open Go.RowKit
def Gy (x:Int) (o:List Int) (i:Nat) (u:List Int):Nat->List Int×Int
 |0=>(u,0)
 |k+1=>((Gy x o i u k).1.set (i+k) ((x*o.getD k 0+(Gy x o i u k).1.getD (i+k) 0+(Gy x o i u k).2) % 10000),(x*o.getD k 0+(Gy x o i u k).1.getD (i+k) 0+(Gy x o i u k).2) / 10000)
def Xt (x:Int) (o:List Int) (i:Nat) (u:List Int):List Int:=(Gy x o i u o.length).1.set (i+o.length) (Gy x o i u o.length).2
def Dg (m o:List Int):Nat->List Int
 |0=>List.replicate (m.length+o.length) 0
 |i+1=>Xt (m.getD i 0) o i (Dg m o i)
def mulL (m o:List Int):List Int:=Dg m o m.length
theorem Ei (x:Int) (o:List Int) (i:Nat) (u:List Int):∀ k,(Gy x o i u k).1.length=u.length
 |0=>rfl
 |k+1=>by simp [Gy,Ei x o i u k]
theorem Tb (x:Int) (o:List Int) (i:Nat) (u:List Int):(Xt x o i u).length=u.length:=by simp [Xt,Ei]
theorem E9 (m o:List Int):∀ i,(Dg m o i).length=m.length+o.length
 |0=>by simp [Dg]
 |i+1=>by rw [Dg,Tb,E9 m o i]
theorem Yr {x y u c:Int} (hx:Af x) (hy:Af y) (hu:Af u) (hc:Af c):0<=x*y/\0<=x*y+u+c/\x*y+u+c<10000*10000:=by
 obtain ⟨h1,h2⟩:=hx
 obtain ⟨h3,h4⟩:=hy
 obtain ⟨h5,h6⟩:=hu
 obtain ⟨h7,h8⟩:=hc
 have a:=Int.mul_nonneg h1 h3
 have b:x*y<=9999*9999:=Int.mul_le_mul (by omega) (by omega) h3 (by omega)
 omega
theorem getD_some {l:List Int} {j:Nat} (h:j<l.length):l[j]? = some (l.getD j 0):=by
 rw [List.getD_eq_getElem?_getD,List.getElem?_eq_getElem h];rfl
theorem Ge (x:Int) (o:List Int) (i:Nat) (u:List Int):∀ (k j:Nat),i+k<=j->(Gy x o i u k).1.getD j 0=u.getD j 0
 |0,_,_=>rfl
 |k+1,j,h=>by rw [Gy,Hu (by omega),Ge x o i u k j (by omega)]
theorem Ln {x:Int} {o:List Int} {i:Nat} {u:List Int} (hu:i+o.length<=u.length):∀ k,k<=o.length->Aj (Gy x o i u k).1+10000 ^ (i+k)*(Gy x o i u k).2=Aj u+10000 ^ i*(x*Aj (o.take k))
 |0,_=>by simp [Gy,Aj]
 |k+1,hk=>by
  have h:=Ln (x:=x) hu k (by omega)
  rw [Gy,Fw (by rw [Ei];omega),A1,show i+(k+1)=(i+k)+1 by omega,Int.pow_succ,Int.pow_add]
  rw [Int.pow_add] at h
  have hd:=Int.mul_ediv_add_emod (x*o.getD k 0+(Gy x o i u k).1.getD (i+k) 0+(Gy x o i u k).2) 10000
  grind
theorem Pe {x:Int} {o:List Int} {i:Nat} {u:List Int} {j:Nat} (h:i+o.length<j):(Xt x o i u).getD j 0=u.getD j 0:=by
 rw [Xt,Hu (by omega),Ge _ _ _ _ _ _ (by omega)]
theorem Tc {x:Int} {o:List Int} {i:Nat} {u:List Int} (hu:i+o.length<u.length) (h0:u.getD (i+o.length) 0=0):Aj (Xt x o i u)=Aj u+10000 ^ i*(x*Aj o):=by
 have h:=Ln (x:=x) (i:=i) (u:=u) (o:=o) (by omega) o.length (Nat.le_refl _)
 rw [List.take_length] at h
 rw [Xt,Fw (by rw [Ei];omega),Ge _ _ _ _ _ _ (Nat.le_refl _),h0,Int.sub_zero];exact h
theorem He (m o:List Int):∀ (i j:Nat),i+o.length<=j->(Dg m o i).getD j 0=0
 |0,j,_=>by
  rw [Dg,List.getD_eq_getElem?_getD]
  by_cases h:j<m.length+o.length
  ·rw [List.getElem?_eq_getElem (by simpa using h)];simp
  ·rw [List.getElem?_eq_none (by simpa using h)];rfl
 |i+1,j,h=>by rw [Dg,Pe (by omega),He m o i j (by omega)]
theorem Le (m o:List Int):∀ i,i<=m.length->Aj (Dg m o i)=Aj (m.take i)*Aj o
 |0,_=>by simp [Dg,Tw,Aj]
 |i+1,h=>by
  have h1:=Le m o i (by omega)
  rw [Dg,Tc (by rw [E9];omega) (He m o i _ (Nat.le_refl _)),A1,h1]
  grind
end Go.Proofs.YtjagmmmcibdibaaGreatDoor.D4
namespace Go.Proofs.YtjagmmmcibdibaaGreatDoor
open Go.RowKit
theorem Zx:∀ (l:List UInt8) (acc:Nat),(∀ c∈l,P4 c)->Lib.decFrom acc l=some (Ii l acc)
 |[],acc,_=>rfl
 |b::r,acc,h=>by
  have h1:=h b List.mem_cons_self
  rw [Lib.decFrom,Lib.digitVal,if_pos (show 48<=b.toNat/\b.toNat<=57 from h1)]
  simp only []
  rw [Zx r _ fun c hc=>h c (List.mem_cons_of_mem _ hc),Nat.mul_comm acc 10];rfl
theorem Zt (n:Int):Lib.atoi (Cw n).data.toList=some n:=by
 have hN:∀ m:Nat,Lib.decNat (Lib.decDigits m)=some m:=fun m=>by
  unfold Lib.decNat
  have hne:=Uv m
  rw [Zx _ _ (Ma m),Z2]
  cases h:Lib.decDigits m with
  |nil=>exact absurd h hne
  |cons b r=>rfl
 show Lib.atoi (Lib.itoa n)=some n
 unfold Lib.itoa
 split
 ·show (Lib.decNat (Lib.decDigits n.natAbs)).map _=_
  rw [hN]
  show some (-(n.natAbs:Int))=some n
  congr 1;omega
 ·have h1:=hN n.toNat
  have hd:=Ma n.toNat
  cases h:Lib.decDigits n.toNat with
  |nil=>exact absurd h (Uv _)
  |cons b r =>
   rw [h] at h1 hd
   have h4:=(hd b List.mem_cons_self).1
   have e1:(b==45)=false:=by rw [beq_eq_false_iff_ne];rintro rfl;simp at h4
   have e2:(b==43)=false:=by rw [beq_eq_false_iff_ne];rintro rfl;simp at h4
   simp only [Lib.atoi,e1,e2,Bool.false_eq_true,if_false]
   rw [h1]
   show some ((n.toNat:Nat):Int)=some n
   congr 1;omega
theorem Zw {n m:Int} (h:Cw n=Cw m):n=m:=by
 have h1:=Zt n
 rw [h,Zt m] at h1
 injection h1 with h2
 exact h2.symm
theorem Mb {n:Int} (h:n<0):Cw n=Rq (45::Lib.decDigits n.natAbs):=by unfold Cw Lib.itoa;rw [if_pos h];rfl
theorem Ih {n:Int} (h:¬ n<0):Cw n=Rq (Lib.decDigits n.natAbs):=by unfold Cw Lib.itoa;rw [if_neg h,show n.toNat=n.natAbs by omega];rfl
theorem Aiz (n:Int):Am 150 [Bf (Cw n),Bf ⟨#[45]⟩] ⟨[],[]⟩ (.ret (Bf (Rq (Lib.decDigits n.natAbs)))) ⟨[],[]⟩:=by
 have e:Lib.trimPrefix (Cw n).data.toList [45]=Lib.decDigits n.natAbs:=by
  by_cases h:n<0
  ·rw [Mb h];rfl
  ·rw [Ih h]
   show Lib.trimPrefix (Lib.decDigits n.natAbs) [45]=_
   have hd:=Ma n.natAbs
   cases hc:Lib.decDigits n.natAbs with
   |nil=>rfl
   |cons c r =>
    have h1:=(hd c (by rw [hc];simp)).1
    have h2:c≠45:=by rintro rfl;simp at h1
    have h3:(45==c)=false:=by simpa using fun e=>h2 e.symm
    unfold Lib.trimPrefix Lib.hasPrefix
    simp [List.isPrefixOf,h3]
 refine G4 Tryz.func150 rfl rfl rfl fun K w vs _ hA=>?_
 simp only [Ao] at hA
 obtain ⟨u,us,rfl,hr,u2,us2,rfl,hr2,rfl⟩:=hA
 rw [Br hr,Br hr2]
 refine (Tryz.strings_TrimPrefix (Cw n) ⟨#[45]⟩ w).mono ?_
 rintro e' w' ⟨rfl,rfl⟩
 refine ⟨?_,Below.refl _ _⟩
 show Ending.returned (.string ⟨(Lib.trimPrefix (Cw n).data.toList [45]).toArray⟩)=_
 rw [e];rfl
theorem Wr {M:Nat} (hM:1000000000<=M):∀ (l:List UInt8) (acc:Nat),(∀ c∈l,P4 c)->Ii l acc<1000000000->Lib.parseUintM M acc l = .ok (Ii l acc)
 |[],acc,_,_=>rfl
 |c::r,acc,hd,hv=>by
  have h1:=hd c List.mem_cons_self
  have h2:10*acc+(c.toNat-48)<=Ii r (10*acc+(c.toNat-48)):=by
   rw [G6];have:0<10 ^ r.length:=Nat.pow_pos (by decide);exact Nat.le_trans (Nat.le_mul_of_pos_right _ this) (Nat.le_add_right _ _)
  rw [Ii] at hv |-
  rw [Lib.parseUintM,if_pos (show 48<=c.toNat/\c.toNat<=57 from h1),if_neg (by omega),if_neg (by omega),show acc*10+(c.toNat-48)=10*acc+(c.toNat-48) by omega]
  exact Wr hM r _ (fun d hd'=>hd d (List.mem_cons_of_mem _ hd')) hv
theorem puint_do (l:List UInt8) (hl:l.length<=9) (hne:l≠[]) (hd:∀ c∈l,P4 c):Am 184 [Bf (Rq l),Ah 10,Ah 32] ⟨[],[]⟩ (.ret (.tup [.d (.v (.int .u64 (Ii l 0:Nat))),.d (.v .nilIface)])) ⟨[],[]⟩:=by
 have hv:Ii l 0<1000000000:=Nat.lt_of_lt_of_le (Ru hd) (Nat.pow_le_pow_right (by decide) hl:10 ^ l.length<=10 ^ 9)
 have hp:Lib.parseUintB 32 (Rq l).data.toList = .ok (Ii l 0):=by
  unfold Lib.parseUintB
  rw [Aet,if_neg hne]
  exact Wr (by decide) l 0 hd hv
 refine ⟨enters_of Tryz.func184 rfl rfl,fun K w vs hI hA=>?_⟩
 simp only [Ao] at hA
 obtain ⟨u,us,rfl,hr,u2,us2,rfl,hr2,u3,us3,rfl,hr3,rfl⟩:=hA
 rw [Br hr,Br hr2,Br hr3]
 refine (Tryz.strconv_ParseUint_10_at32_ok (Rq l) (by show l.length<=_;omega) _ hp w).mono ?_
 rintro e w' ⟨rfl,hw⟩
 have hb:Below w.heap.size w w':=by
  rcases hw with rfl|rfl
  ·exact Below.refl _ _
  ·exact Lib.bytesWorld_below w 5 _
 obtain ⟨h1,h2⟩:=hI.below hb
 exact ⟨K,h2,h1,_,rfl,by simp [Rep,Ao,Ci,Value.oneCell']⟩
theorem Ky:Cw 0=⟨#[48]⟩:=by
 rw [Ih (by omega)]
 show Rq (Lib.decDigits 0)=_
 rw [Ec (by omega)];rfl
set_option maxHeartbeats 1000000 in
theorem Xm (n:Int) (hl:(Lib.decDigits n.natAbs).length<=2000):Am 117 [Bf (Cw n)] ⟨[],[]⟩ (.ret (Ah 0)) ⟨[],[]⟩:=by
 have htr:=Aiz n
 have hdig:=Ma n.natAbs
 have hne:=Uv n.natAbs
 have hz:Cw n=⟨#[48]⟩->n=0:=fun e=>Zw (e.trans Ky.symm)
 have hh:n≠0->∃ c r,Lib.decDigits n.natAbs=c::r/\c≠48:=fun h=>dec_head (by omega)
 generalize Lib.decDigits n.natAbs=t at *
 refine Ad Tryz.func117 rfl rfl (Nat.le_of_ble_eq_true rfl) rfl (Nat.le_refl _) ?_
 repeat' (first|refine rl0 ?_|refine rs0 ?_ ?_<;>intro h|fail)
 refine pw_scope ?_
 repeat' (first|refine rl0 ?_|refine rs0 ?_ ?_<;>intro h|fail)
 refine E2 htr rfl rfl rfl rfl rfl (by repeat (first|exact Ae|refine Ab (Ac _) ?_)) ?_
 repeat' (first|refine rl0 ?_|refine rs0 ?_ ?_<;>intro h|fail)
 refine pw_label ?_
 show PW _ _ _ _ _ _
 repeat' (first|refine rl0 ?_|refine rs0 ?_ ?_<;>intro h|fail)
 ·rfl
 ·exfalso
  exact hne (congrArg (fun b:ByteArray=>b.data.toList) (of_decide_eq_true h))
 rename_i h48
 have h0:n≠0:=by rintro rfl;exact of_decide_eq_false h48 Ky
 obtain ⟨c,r,rfl,hc⟩:=hh h0
 refine wst rfl rfl ⟨by omega,by show (0:Int)<((c::r).length:Int);simp⟩ ?_
 repeat' (first|refine rl0 ?_|refine rs0 ?_ ?_<;>intro h|fail)
 ·exfalso
  have h9:=of_decide_eq_true h
  rw [Aet] at h9
  simp at h9
  exact hc (UInt8.toNat_inj.1 (by show c.toNat=48;omega))
 refine wbytes (s:=Rq (c::r)) (by show (c::r).length<=_;omega) ?_
 repeat' (first|refine rl0 ?_|refine rs0 ?_ ?_<;>intro h|fail)
 refine B3 (ι := Nat) (ok:=fun i=>i<=(c::r).length) (L:=fun i=>[(3,Bf (Rq (c::r))),(4,Ah 0),(10,.d (.sl 1 ((c::r).map byP))),(11,Ah (c::r).length),(12,Ah i)]) (Sx:=fun _=>⟨[],[]⟩) (μ := fun i=>(c::r).length-i) 0 (Nat.zero_le _) (by repeat (first|exact Ag|refine Aa (by first|rfl|(rw [List.length_map];rfl)) ?_)) rfl ?_
 intro i hi
 repeat' (first|refine rl0 ?_|refine rs0 ?_ ?_<;>intro h|fail)
 ·have hlt:i<(c::r).length:=by have:=of_decide_eq_true h;omega
  obtain ⟨b,hb⟩:∃ b,(c::r)[i]? = some b:=⟨_,List.getElem?_eq_getElem hlt⟩
  have hbd:=hdig b (List.mem_of_getElem? hb)
  unfold P4 at hbd
  refine wix (byP b) rfl rfl rfl rfl rfl (Sg hb) (by omega) ?_
  repeat' (first|refine rl0 ?_|refine rs0 ?_ ?_<;>intro h|fail)
  ·exfalso;have:=of_decide_eq_true h;omega
  ·exfalso;have:=of_decide_eq_true h;omega
  ·exact ⟨i+1,by omega,by omega,(by repeat (first|exact Ag|refine Aa rfl ?_)),rfl⟩
 ·exfalso
  have h9:=of_decide_eq_true h
  rw [show (Rq (c::r)).size=(c::r).length from rfl] at h9
  omega
 ·rfl
theorem ext2 (t:List UInt8) (lo e:Nat):ByteArray.extract (Rq t) lo e=Rq ((t.take e).drop lo):=by
 apply ByteArray.ext
 rw [ByteArray.data_extract]
 apply Array.ext'
 simp [Rq,List.extract_eq_take_drop,List.drop_take]
set_option maxHeartbeats 1000000 in
theorem Z7 (n:Int) (hl:(Lib.decDigits n.natAbs).length<=100000):Am 151 [Bf (Cw n)] ⟨[],[]⟩ (.ret (whI n)) ⟨[],[]⟩:=by
 have htr:=Aiz n
 have hdig:=Ma n.natAbs
 have hne:=Uv n.natAbs
 have hsz:(Cw n).size=(if n<0 then 1 else 0)+(Lib.decDigits n.natAbs).length:=by
  by_cases h:n<0
  ·rw [Mb h,if_pos h];show (45::_).length=_;simp;omega
  ·rw [Ih h,if_neg h];show (Lib.decDigits n.natAbs).length=_;omega
 have hval:=Z2 n.natAbs
 generalize Lib.decDigits n.natAbs=t at *
 have hok:=rd9_ok hdig t.length
 have hw:Am 112 [An (decide (n<0)),B1 (rd9 t t.length)] ⟨[],[]⟩ (.ret (whI n)) ⟨[],[]⟩:=Dy _ hok n (by
  rw [rd9_val t _ (Nat.le_refl _),List.take_length,hval]
  by_cases h:n<0
  ·rw [if_pos (by simpa using h)];omega
  ·rw [if_neg (by simpa using h)];omega)
 have hneg:decide ((((Rq t).size:Nat):Int)<((Cw n).size:Nat))=decide (n<0):=by
  rw [hsz,show (Rq t).size=t.length from rfl]
  by_cases h:n<0
  ·rw [if_pos h,decide_eq_true h];simp;omega
  ·rw [if_neg h,decide_eq_false h];simp
 refine C5 Tryz.func151 rfl rfl (Nat.le_of_ble_eq_true rfl) (fun _=>?_)
 refine Cl ?_
 repeat' (first|refine rl1 ?_|refine rs1 ?_ ?_<;>intro h|fail)
 refine Cl ?_
 repeat' (first|refine rl1 ?_|refine rs1 ?_ ?_<;>intro h|fail)
 refine wp1 htr ?_
 repeat' (first|refine rl1 ?_|refine rs1 ?_ ?_<;>intro h|fail)
 refine Cl ?_
 repeat' (first|refine rl1 ?_|refine rs1 ?_ ?_<;>intro h|fail)
 refine Cl ?_
 repeat' (first|refine rl1 ?_|refine rs1 ?_ ?_<;>intro h|fail)
 refine B3 (ι := List Int×Int) (ok:=fun q=>rd9 t t.length=q.1++rd9 t q.2.toNat/\q.2<=t.length) (L:=fun q=>[(2,.ptr 0 0),(3,Bf (Rq t)),(4,.ptr 1 0),(5,Ah q.2)]) (Sx:=fun q=>smS (decide (n<0)) q.1) (μ := fun q=>q.2.toNat) ([],(t.length:Int)) ⟨by simp,Int.le_refl _⟩ (by exact (by repeat (first|exact Ag|refine Aa rfl ?_))) (congrArg (fun b=>(⟨[[An false,Ad5],[An b,Ad5]],[]⟩:PS)) hneg) ?_
 rintro ⟨l,z⟩ ⟨hl9,hz⟩
 dsimp only at hl9 hz |-
 repeat' (first|refine rl1 ?_|refine rs1 ?_ ?_<;>intro h|fail)
 ·have hz0:=of_decide_eq_true h
  obtain ⟨e,rfl⟩:∃ e:Nat,z=e:=⟨z.toNat,by omega⟩
  rw [Int.toNat_natCast] at hl9
  have he0:e≠0:=by omega
  rw [S5 he0] at hl9
  have hseg:∀ c∈(t.take e).drop (e-9),P4 c:=fun c hc=>hdig c (List.mem_of_mem_take (List.mem_of_mem_drop hc))
  have hsl:((t.take e).drop (e-9)).length<=9:=by simp;omega
  have hsn:(t.take e).drop (e-9)≠[]:=by intro h;have:=congrArg List.length h;simp at this;omega
  have hpu:=puint_do _ hsl hsn hseg
  have hv:Ii ((t.take e).drop (e-9)) 0<1000000000:=Nat.lt_of_lt_of_le (Ru hseg) (Nat.pow_le_pow_right (by decide) hsl:10 ^ ((t.take e).drop (e-9)).length<=10 ^ 9)
  have hrl:=Ah3 t (e-9)
  have hlo:(if (0:Int)<(e:Int)-9 then (e:Int)-9 else 0).toNat=e-9:=by split<;>omega
  have hzn:((e:Int)-9).toNat=e-9:=by omega
  repeat' (first|refine rl1 ?_|refine rs1 ?_ ?_<;>intro h|fail)
  refine Jz (Bf (Rq ((t.take e).drop (e-9)))) rfl rfl (by rw [hlo,Int.toNat_natCast];exact congrArg Bf (ext2 _ _ _)) ⟨by split<;>omega,by split<;>omega,by show (e:Int)<=(t.length:Int);omega⟩ ?_
  repeat' (first|refine rl1 ?_|refine rs1 ?_ ?_<;>intro h|fail)
  refine wp1 hpu ?_
  generalize hvv:Ii ((t.take e).drop (e-9)) 0=v at *
  have hll:l.length<=100000:=by have h1:=congrArg List.length hl9;have h2:=Ah3 t t.length;simp at h1;omega
  cases l with
  |nil =>
   unfold smS
   repeat' (first|refine rl1 ?_|refine rs1 ?_ ?_<;>intro h|fail)
   refine Jz (.d (.v (.int .u32 (v:Int)))) rfl rfl rfl ⟨by show (0:Int)<=(v:Int);omega,by show (v:Int)<=(4294967295:Int);omega⟩ ?_
   repeat' (first|refine rl1 ?_|refine rs1 ?_ ?_<;>intro h|fail)
   refine wapp0 33 [B4 v] rfl rfl rfl rfl rfl rfl rfl (by show (0+1)*4<=_;omega) (by show 0+1<=_;omega) rfl ?_
   repeat' (first|refine rl1 ?_|refine rs1 ?_ ?_<;>intro h|fail)
   exact ⟨([(v:Int)],(e:Int)-9),⟨by rw [hzn];exact hl9,by dsimp only;omega⟩,by dsimp only;omega,(by repeat (first|exact Ag|refine Aa rfl ?_)),rfl⟩
  |cons x l =>
   unfold smS
   repeat' (first|refine rl1 ?_|refine rs1 ?_ ?_<;>intro h|fail)
   refine Jz (.d (.v (.int .u32 (v:Int)))) rfl rfl rfl ⟨by show (0:Int)<=(v:Int);omega,by show (v:Int)<=(4294967295:Int);omega⟩ ?_
   repeat' (first|refine rl1 ?_|refine rs1 ?_ ?_<;>intro h|fail)
   simp only [List.length_cons] at hll
   refine T9 (news:=[B4 v]) (S':=⟨[[An false,Ad5],[An (decide (n<0)),.hd 0 (l.length+1)]],[⟨l.length+2,1,(x::(l++[(v:Int)])).map B4,148⟩]⟩) rfl rfl rfl rfl rfl rfl ?_ ?_ (by simp [PS.setTok]) ?_
   ·simp only [List.length_map,List.length_cons];show (_+1)*4<=_;omega
   ·simp only [List.length_map,List.length_cons];show _+1<=_;omega
   repeat' (first|refine rl1 ?_|refine rs1 ?_ ?_<;>intro h|fail)
   exact ⟨(x::(l++[(v:Int)]),(e:Int)-9),⟨by rw [hzn];simpa using hl9,by dsimp only;omega⟩,by dsimp only;omega,(by repeat (first|exact Ag|refine Aa rfl ?_)),by simp [smS,PS.setBox]⟩
 ·have hr0:z<=0:=by have:=of_decide_eq_false h;omega
  rw [show z.toNat=0 by omega,Lk,List.append_nil] at hl9
  rw [hl9] at hw
  refine P8 ?_
  cases l with
  |nil =>
   unfold smS
   repeat' (first|refine rl1 ?_|refine rs1 ?_ ?_<;>intro h|fail)
   refine wp1 hw ?_ (ha:=Ab (Ac _) (Ab Fg Ae))
   repeat' (first|refine rl1 ?_|refine rs1 ?_ ?_<;>intro h|fail)
   exact Xs (.inr rfl) rfl rfl (Q5 rfl)
  |cons x l =>
   unfold smS
   repeat' (first|refine rl1 ?_|refine rs1 ?_ ?_<;>intro h|fail)
   refine wp1 hw ?_ (ha:=Ab (Ac _) (Ab (Kc (Ep rfl)) Ae))
   repeat' (first|refine rl1 ?_|refine rs1 ?_ ?_<;>intro h|fail)
   exact Xs (.inr rfl) rfl rfl (Q5 rfl)
theorem Aak {c:UInt8}:∀ {l:List UInt8},(∀ b∈l,b≠c)->Lib.indexByte l c = -1
 |[],_=>rfl
 |b::l,h=>by
  have h1:(b==c)=false:=by simpa using h b List.mem_cons_self
  have h2:=Aak (l:=l) fun d hd=>h d (List.mem_cons_of_mem _ hd)
  simp [Lib.indexByte,h1,h2]
theorem Aai {c:UInt8} {r:List UInt8}:∀ {l:List UInt8},(∀ b∈l,b≠c)->Lib.indexByte (l++c::r) c=l.length
 |[],_=>by simp [Lib.indexByte]
 |b::l,h=>by
  have h1:(b==c)=false:=by simpa using h b List.mem_cons_self
  have h2:=Aai (r:=r) (l:=l) fun d hd=>h d (List.mem_cons_of_mem _ hd)
  have h3:((l.length:Int) == -1)=false:=by simp
  simp only [List.cons_append,Lib.indexByte,h1,h2,h3]
  simp
theorem Vl (s:ByteArray) (c:UInt8):Am 182 [Bf s,Bf ⟨#[c]⟩] ⟨[],[]⟩ (.ret (Ah (Lib.indexByte s.data.toList c))) ⟨[],[]⟩:=by
 refine G4 Tryz.func182 rfl rfl rfl fun K w vs _ hA=>?_
 simp only [Ao] at hA
 obtain ⟨u,us,rfl,hr,u2,us2,rfl,hr2,rfl⟩:=hA
 rw [Br hr,Br hr2]
 refine (Tryz.stringslite_Index_one s c w).mono ?_
 rintro e w' ⟨rfl,rfl⟩
 exact ⟨rfl,Below.refl _ _⟩
theorem Uw (n:Int):∀ b∈(Cw n).data.toList,b≠47:=by
 have hd:=Ma n.natAbs
 have h47:∀ b∈Lib.decDigits n.natAbs,b≠47:=by rintro b hb rfl;exact absurd (hd _ hb).1 (by decide)
 by_cases h:n<0
 ·rw [Mb h]
  intro b hb
  rcases List.mem_cons.1 (show b∈45::Lib.decDigits n.natAbs from hb) with rfl|hb
  ·decide
  ·exact h47 b hb
 ·rw [Ih h];exact h47
theorem lcut_no (n:Int) (hz:(Cw n).size<=1000000):Am 149 [Bf (Cw n),Bf Dx] ⟨[],[]⟩ (.ret (.tup [Bf (Cw n),Bf ⟨#[]⟩,An false])) ⟨[],[]⟩:=by
 have hi:=Vl (Cw n) 47
 rw [Aak (Uw n)] at hi
 refine Ad Tryz.func149 rfl rfl (Nat.le_of_ble_eq_true rfl) rfl (Nat.le_refl _) ?_
 repeat' (first|refine rl0 ?_|refine rs0 ?_ ?_<;>intro h|fail)
 refine E2 hi rfl rfl rfl rfl rfl (by repeat (first|exact Ae|refine Ab (Ac _) ?_)) ?_
 repeat' (first|refine rl0 ?_|refine rs0 ?_ ?_<;>intro h|fail)
 rfl
theorem cut_left (a b:ByteArray):(a++Dx++b).extract 0 a.size=a:=by
 apply ByteArray.ext
 rw [ByteArray.data_extract]
 apply Array.ext'
 simp [ByteArray.data_append,List.extract_eq_take_drop]
 exact List.take_of_length_le (by show a.data.toList.length<=a.data.size;simp)
theorem Ae3 (a b:ByteArray) (k:Nat) (hk:(a++Dx++b).size<=k):(a++Dx++b).extract (a.size+1) k=b:=by
 apply ByteArray.ext
 rw [ByteArray.data_extract]
 apply Array.ext'
 have h1:(a++Dx++b).data.toList=(a.data.toList++[47])++b.data.toList:=by simp [ByteArray.data_append,Dx]
 have h2:(a.data.toList++[47]).length=a.size+1:=by rw [List.length_append];show a.data.toList.length+1=a.data.size+1;simp
 rw [Array.toList_extract,h1,List.extract_eq_take_drop,List.drop_left' h2,List.take_of_length_le]
 rw [ByteArray.size_append,ByteArray.size_append] at hk
 have h3:b.data.toList.length=b.size:=by show b.data.toList.length=b.data.size;simp
 have h4:Dx.size=1:=rfl
 omega
theorem lcut_yes (n d:Int) (hz:(Cw n).size<=1000000) (hd:(Cw d).size<=1000000):Am 149 [Bf (Cw n++Dx++Cw d),Bf Dx] ⟨[],[]⟩ (.ret (.tup [Bf (Cw n),Bf (Cw d),An true])) ⟨[],[]⟩:=by
 have e:(Cw n++Dx++Cw d).data.toList=(Cw n).data.toList++47::(Cw d).data.toList:=by simp [ByteArray.data_append,Dx]
 have hi:=Vl (Cw n++Dx++Cw d) 47
 rw [e,Aai (Uw n)] at hi
 refine Ad Tryz.func149 rfl rfl (Nat.le_of_ble_eq_true rfl) rfl (Nat.le_refl _) ?_
 repeat' (first|refine rl0 ?_|refine rs0 ?_ ?_<;>intro h|fail)
 refine E2 hi rfl rfl rfl rfl rfl (by repeat (first|exact Ae|refine Ab (Ac _) ?_)) ?_
 repeat' (first|refine rl0 ?_|refine rs0 ?_ ?_<;>intro h|fail)
 have hsz:(Cw n++Dx++Cw d).size=(Cw n).size+1+(Cw d).size:=by rw [ByteArray.size_append,ByteArray.size_append];rfl
 have hln:(Cw n).data.toList.length=(Cw n).size:=by simp
 rw [hln]
 refine wan rfl rfl ⟨by omega,by omega,by omega⟩ ?_
 repeat' (first|refine rl0 ?_|refine rs0 ?_ ?_<;>intro h|fail)
 refine wan rfl rfl ⟨by show (-9223372036854775808:Int)<=((Cw n).size:Int)+1;omega,by show ((Cw n).size:Int)+1<=(9223372036854775807:Int);omega⟩ ?_
 repeat' (first|refine rl0 ?_|refine rs0 ?_ ?_<;>intro h|fail)
 refine wan rfl rfl ⟨by show (0:Int)<=((Cw n).size:Int)+1;omega,by show ((Cw n).size:Int)+1<=_;omega,by omega⟩ ?_
 repeat' (first|refine rl0 ?_|refine rs0 ?_ ?_<;>intro h|fail)
 have h1:=cut_left (Cw n) (Cw d)
 have h2:=Ae3 (Cw n) (Cw d) (Cw n++Dx++Cw d).size (Nat.le_refl _)
 generalize Cw n++Dx++Cw d=w at *
 show PV.tup [Bf (w.extract 0 (Cw n).size),Bf (w.extract ((Cw n).size+1) w.size),An true]=_
 rw [h1,h2]
theorem cut_no (n:Int) (hz:(Cw n).size<=1000000):Am 116 [Bf (Cw n),Bf Dx] ⟨[],[]⟩ (.ret (.tup [Bf (Cw n),Bf ⟨#[]⟩,An false])) ⟨[],[]⟩:=by
 have h:=lcut_no n hz
 refine Ad Tryz.func116 rfl rfl (Nat.le_of_ble_eq_true rfl) rfl (Nat.le_refl _) ?_
 repeat' (first|refine rl0 ?_|refine rs0 ?_ ?_<;>intro h|fail)
 refine E2 h rfl rfl rfl rfl rfl (by repeat (first|exact Ae|refine Ab (Ac _) ?_)) ?_
 repeat' (first|refine rl0 ?_|refine rs0 ?_ ?_<;>intro h|fail)
 rfl
theorem Ae4 (n d:Int) (hz:(Cw n).size<=1000000) (hd:(Cw d).size<=1000000):Am 116 [Bf (Cw n++Dx++Cw d),Bf Dx] ⟨[],[]⟩ (.ret (.tup [Bf (Cw n),Bf (Cw d),An true])) ⟨[],[]⟩:=by
 have h:=lcut_yes n d hz hd
 refine Ad Tryz.func116 rfl rfl (Nat.le_of_ble_eq_true rfl) rfl (Nat.le_refl _) ?_
 repeat' (first|refine rl0 ?_|refine rs0 ?_ ?_<;>intro h|fail)
 refine E2 h rfl rfl rfl rfl rfl (by repeat (first|exact Ae|refine Ab (Ac _) ?_)) ?_
 repeat' (first|refine rl0 ?_|refine rs0 ?_ ?_<;>intro h|fail)
 rfl
theorem Uz (z:Int) (hl:(Al z.natAbs).length<=10000):∃ v:Int,0<=v/\v<=9*(Al z.natAbs).length+1/\Am 120 [whI z] ⟨[],[]⟩ (.ret (Ah v)) ⟨[],[]⟩:=by
 have hok:=Bq z.natAbs
 have hlen:((Al z.natAbs).map B4).length=(Al z.natAbs).length:=by simp
 unfold whI
 generalize Al z.natAbs=l at *
 cases l with
 |nil =>
  refine ⟨1,by omega,by omega,?_⟩
  refine Ad Tryz.func120 rfl rfl (Nat.le_of_ble_eq_true rfl) rfl (Nat.le_refl _) ?_
  repeat' (first|refine rl0 ?_|refine rs0 ?_ ?_<;>intro h|fail)
  rfl
 |cons x r =>
  obtain ⟨y,hy⟩:∃ y,(x::r)[r.length]? = some y:=⟨_,List.getElem?_eq_getElem (by simp)⟩
  have hyo:=hok y (List.mem_of_getElem? hy)
  have hit:=Aga y (by have:=hyo.1;omega) (by have:=hyo.2;omega)
  have hln:(Lib.itoa y).length<=9:=by
   unfold Lib.itoa
   rw [if_neg (by have:=hyo.1;omega)]
   exact Fl 8 y.toNat (by have:=hyo.1;have:=hyo.2;omega)
  refine ⟨9*((((x::r).length:Nat):Int)-1)+(Lib.itoa y).length,by simp only [List.length_cons];omega,by simp only [List.length_cons];omega,?_⟩
  have hL:((x::r).map B4).length=r.length+1:=by simp
  simp only [List.length_cons] at hl
  refine Ad Tryz.func120 rfl rfl (Nat.le_of_ble_eq_true rfl) rfl (Nat.le_refl _) ?_
  repeat' (first|refine rl0 ?_|refine rs0 ?_ ?_<;>intro h|fail)
  refine wix (B4 y) rfl rfl rfl rfl rfl (by rw [hL,show (((r.length+1:Nat):Int)-1).toNat=r.length by omega,List.getElem?_map,hy];rfl) (by omega) ?_
  repeat' (first|refine rl0 ?_|refine rs0 ?_ ?_<;>intro h|fail)
  have hy1:=hyo.1
  have hy2:=hyo.2
  have hsz:(⟨(Lib.itoa y).toArray⟩:ByteArray).size=(Lib.itoa y).length:=rfl
  refine Jz (.d (.v (.int .i64 (y)))) rfl rfl rfl ⟨by show (-9223372036854775808:Int)<=_;omega,by show _<=(9223372036854775807:Int);omega⟩ ?_
  repeat' (first|refine rl0 ?_|refine rs0 ?_ ?_<;>intro h|fail)
  refine wp1 hit ?_
  generalize (⟨(Lib.itoa y).toArray⟩:ByteArray)=w at *
  repeat' (first|refine rl0 ?_|refine rs0 ?_ ?_<;>intro h|fail)
  rw [hL,hsz];rfl
theorem Afv {k:Nat} {p:Fr} (hp:Fit k p) (hk:k<=200):Am 83 [fcP p,Ah 2000] ⟨[],[]⟩ (.ret (An true)) ⟨[],[]⟩:=by
 have h1:(Al p.1.natAbs).length<=k:=hp.num.len
 have h2:(Al p.2.natAbs).length<=k:=hp.den.len
 obtain ⟨v1,a1,b1,c1⟩:=Uz p.1 (by omega)
 obtain ⟨v2,a2,b2,c2⟩:=Uz p.2 (by omega)
 unfold fcP J6
 refine Ad Tryz.func83 rfl rfl (Nat.le_of_ble_eq_true rfl) rfl (Nat.le_refl _) ?_
 repeat' (first|refine rl0 ?_|refine rs0 ?_ ?_<;>intro h|fail)
 refine wp1 c1 ?_
 repeat' (first|refine rl0 ?_|refine rs0 ?_ ?_<;>intro h|fail)
 ·refine wp1 c2 ?_
  repeat' (first|refine rl0 ?_|refine rs0 ?_ ?_<;>intro h|fail)
  rw [decide_eq_true (by omega)]
 ·exfalso;have:=of_decide_eq_false h;omega
theorem parts_do (p:Fr):Am 119 [fcP p] ⟨[],[]⟩ (.ret (.tup [whI p.1,whI p.2])) ⟨[],[]⟩:=by
 unfold fcP J6
 refine Ad Tryz.func119 rfl rfl (Nat.le_of_ble_eq_true rfl) rfl (Nat.le_refl _) ?_
 repeat' (first|refine rl2 ?_|refine rs2 ?_ ?_<;>intro h|fail)
 refine b0 (fun k=>Nat.beq k 4||Nat.beq k 5) [(1,[0]),(3,[0])] ?_
 repeat' (first|refine rl7 ?_|refine rs7 ?_ ?_<;>intro h|fail)
 repeat' (first|refine rl2 ?_|refine rs2 ?_ ?_<;>intro h|fail)
 rfl
theorem from_do {p:Fr} (hn:(Lib.decDigits p.1.natAbs).length<=100000) (hd:(Lib.decDigits p.2.natAbs).length<=100000):Am 118 [Bf (fcT p)] ⟨[],[]⟩ (.ret (fcP p)) ⟨[],[]⟩:=by
 have r1:=Z7 p.1 hn
 have r2:=Z7 p.2 hd
 have s1:=Ls 1 (by decide) (by decide)
 have z:∀ n:Int,(Lib.decDigits n.natAbs).length<=100000->(Cw n).size<=1000000:=fun n h=>by
  by_cases h0:n<0
  ·rw [Mb h0];show (45::_).length<=_;simp;omega
  ·rw [Ih h0];show (Lib.decDigits n.natAbs).length<=_;omega
 unfold fcT
 by_cases h1:p.2=1
 ·rw [if_pos h1]
  have hc:=cut_no p.1 (z _ hn)
  have s1:Am 88 [Ah 1] ⟨[],[]⟩ (.ret (whI p.2)) ⟨[],[]⟩:=by rw [h1];exact s1
  refine Ad Tryz.func118 rfl rfl (Nat.le_of_ble_eq_true rfl) rfl (Nat.le_refl _) ?_
  repeat' (first|refine rl0 ?_|refine rs0 ?_ ?_<;>intro h|fail)
  refine wp1 hc ?_
  repeat' (first|refine rl0 ?_|refine rs0 ?_ ?_<;>intro h|fail)
  refine wp1 r1 ?_
  repeat' (first|refine rl0 ?_|refine rs0 ?_ ?_<;>intro h|fail)
  refine wp1 s1 ?_
  repeat' (first|refine rl0 ?_|refine rs0 ?_ ?_<;>intro h|fail)
  rfl
 ·rw [if_neg h1]
  have hc:=Ae4 p.1 p.2 (z _ hn) (z _ hd)
  refine Ad Tryz.func118 rfl rfl (Nat.le_of_ble_eq_true rfl) rfl (Nat.le_refl _) ?_
  repeat' (first|refine rl0 ?_|refine rs0 ?_ ?_<;>intro h|fail)
  refine wp1 hc ?_
  repeat' (first|refine rl0 ?_|refine rs0 ?_ ?_<;>intro h|fail)
  refine wp1 r1 ?_
  repeat' (first|refine rl0 ?_|refine rs0 ?_ ?_<;>intro h|fail)
  refine wp1 r2 ?_
  repeat' (first|refine rl0 ?_|refine rs0 ?_ ?_<;>intro h|fail)
  rfl
theorem Qm {k:Nat} {n:Int} (h:Lim k n.natAbs):(Lib.decDigits n.natAbs).length<=9*k+2:=by
 have h1:=X9 h
 by_cases h0:n<0
 ·rw [Mb h0] at h1
  have:(45::Lib.decDigits n.natAbs).length<=9*k+2:=h1
  simp at this;omega
 ·rw [Ih h0] at h1;exact h1
@[reducible] def nbP (p:Fr):PV := .agg [An (decide (p.1<0)),B1 (Al p.1.natAbs),An (decide (p.2<0)),B1 (Al p.2.natAbs),Ah 0]
set_option maxHeartbeats 1000000 in
theorem Jl {k:Nat} {p:Fr} (hp:Fit k p) (hk:k<=200):Am 81 [Bf (fcT p)] ⟨[],[]⟩ (.ret (nbP p)) ⟨[],[]⟩:=by
 have d1:=Qm hp.num
 have d2:=Qm hp.den
 have l1:(Al p.1.natAbs).length<=k:=hp.num.len
 have l2:(Al p.2.natAbs).length<=k:=hp.den.len
 have k1:=Xm p.1 (by omega)
 have k2:=Xm p.2 (by omega)
 have fr:=from_do (p:=p) (by omega) (by omega)
 have pt:=parts_do p
 have s1:=Ls 1 (by decide) (by decide)
 have ft:=Afv hp hk
 have l3:(Al (1:Int).natAbs).length<=3:=Jf (by decide)
 have c1:=Zl p.2 1 (by omega) (by omega)
 have g1:=gcd_do p.1 p.2 (by omega) (by omega)
 have c2:=Zl 1 1 (by omega) (by omega)
 rw [hp.red.2] at g1
 have hpos:=hp.red.1
 have z:∀ n:Int,(Lib.decDigits n.natAbs).length<=100000->(Cw n).size<=1000000:=fun n h=>by
  by_cases h0:n<0
  ·rw [Mb h0];show (45::_).length<=_;simp;omega
  ·rw [Ih h0];show (Lib.decDigits n.natAbs).length<=_;omega
 unfold fcT at fr |-
 by_cases h1:p.2=1
 ·rw [if_pos h1] at fr |-
  have hc:=cut_no p.1 (z _ (by omega))
  rw [h1] at k2
  rw [show Cw 1=⟨#[49]⟩ from by rw [Ih (by omega)];show Rq (Lib.decDigits 1)=_;rw [Ec (by omega)];rfl] at k2
  refine Ad Tryz.func81 rfl rfl (Nat.le_of_ble_eq_true rfl) rfl (Nat.le_refl _) ?_
  repeat' (first|refine rl0 ?_|refine rs0 ?_ ?_<;>intro h|fail)
  refine wp1 hc ?_
  repeat' (first|refine rl0 ?_|refine rs0 ?_ ?_<;>intro h|fail)
  refine wp1 k1 ?_
  repeat' (first|refine rl0 ?_|refine rs0 ?_ ?_<;>intro h|fail)
  refine wp1 k2 ?_
  repeat' (first|refine rl0 ?_|refine rs0 ?_ ?_<;>intro h|fail)
  refine wp1 fr ?_
  repeat' (first|refine rl0 ?_|refine rs0 ?_ ?_<;>intro h|fail)
  refine wp1 pt ?_
  repeat' (first|refine rl0 ?_|refine rs0 ?_ ?_<;>intro h|fail)
  refine wp1 s1 ?_
  repeat' (first|refine rl0 ?_|refine rs0 ?_ ?_<;>intro h|fail)
  refine wp1 ft ?_
  repeat' (first|refine rl0 ?_|refine rs0 ?_ ?_<;>intro h|fail)
  rfl
 ·rw [if_neg h1] at fr |-
  have hc:=Ae4 p.1 p.2 (z _ (by omega)) (z _ (by omega))
  have e1:Cp p.2 1=1:=by unfold Cp;split<;>(try split)<;>omega
  rw [e1] at c1
  rw [show Cp 1 1=0 from rfl] at c2
  refine Ad Tryz.func81 rfl rfl (Nat.le_of_ble_eq_true rfl) rfl (Nat.le_refl _) ?_
  repeat' (first|refine rl0 ?_|refine rs0 ?_ ?_<;>intro h|fail)
  refine wp1 hc ?_
  repeat' (first|refine rl0 ?_|refine rs0 ?_ ?_<;>intro h|fail)
  refine wp1 k1 ?_
  repeat' (first|refine rl0 ?_|refine rs0 ?_ ?_<;>intro h|fail)
  refine wp1 k2 ?_
  repeat' (first|refine rl0 ?_|refine rs0 ?_ ?_<;>intro h|fail)
  refine wp1 fr ?_
  repeat' (first|refine rl0 ?_|refine rs0 ?_ ?_<;>intro h|fail)
  refine wp1 pt ?_
  repeat' (first|refine rl0 ?_|refine rs0 ?_ ?_<;>intro h|fail)
  refine wp1 s1 ?_
  repeat' (first|refine rl0 ?_|refine rs0 ?_ ?_<;>intro h|fail)
  refine wcn c1 rfl rfl rfl rfl rfl (by repeat (first|exact Ae|refine Ab (Ac _) ?_)) ?_
  repeat' (first|refine rl0 ?_|refine rs0 ?_ ?_<;>intro h|fail)
  refine wcn g1 rfl rfl rfl rfl rfl (by repeat (first|exact Ae|refine Ab (Ac _) ?_)) ?_
  repeat' (first|refine rl0 ?_|refine rs0 ?_ ?_<;>intro h|fail)
  refine wcn c2 rfl rfl rfl rfl rfl (by repeat (first|exact Ae|refine Ab (Ac _) ?_)) ?_
  repeat' (first|refine rl0 ?_|refine rs0 ?_ ?_<;>intro h|fail)
  refine wp1 ft ?_
  repeat' (first|refine rl0 ?_|refine rs0 ?_ ?_<;>intro h|fail)
  rfl
theorem Aix {k:Nat} {p:Fr} (hp:Fit k p) (hk:k<=200):Am 49 [fcP p] ⟨[],[]⟩ (.ret (.tup [Bf (fcT p),Ah 0])) ⟨[],[]⟩:=by
 have h1:=Afv hp hk
 have h2:=Aa2 hp (by omega)
 generalize fcT p=s at *
 unfold fcP J6 at *
 refine Ad Tryz.func49 rfl rfl (Nat.le_of_ble_eq_true rfl) rfl (Nat.le_refl _) ?_
 repeat' (first|refine rl0 ?_|refine rs0 ?_ ?_<;>intro h|fail)
 refine wp1 h1 ?_
 repeat' (first|refine rl0 ?_|refine rs0 ?_ ?_<;>intro h|fail)
 refine wp1 h2 ?_
 repeat' (first|refine rl0 ?_|refine rs0 ?_ ?_<;>intro h|fail)
 rfl
section
variable {k:Nat} {p q r:Fr} {g:Nat}
@[reducible] def fnS (g:Nat):PS:=⟨[[.fn g []]],[]⟩
theorem app1_do (hr:Fit k r) (hk:k<=200) (hg:Am g [fcP p,fcP q] ⟨[],[]⟩ (.ret (fcP r)) ⟨[],[]⟩):Am 77 [fcP p,fcP q,.ptr 0 0] (fnS g) (.ret (.tup [Bf (fcT r),Ah 0])) (fnS g):=by
 have ht:=Aix hr hk
 generalize fcT r=s at *
 unfold fcP J6 at *
 refine Ad Tryz.func77 rfl rfl (Nat.le_of_ble_eq_true rfl) rfl (Nat.le_refl _) ?_
 repeat' (first|refine rl0 ?_|refine rs0 ?_ ?_<;>intro h|fail)
 refine wp1 hg ?_
 repeat' (first|refine rl0 ?_|refine rs0 ?_ ?_<;>intro h|fail)
 refine wp1 ht ?_
 repeat' (first|refine rl0 ?_|refine rs0 ?_ ?_<;>intro h|fail)
 rfl
theorem bothB_do (hp:Fit k p) (hq:Fit k q) (hk:k<=200) {s:ByteArray} (hF:Am 77 [fcP p,fcP q,.ptr 0 0] (fnS g) (.ret (.tup [Bf s,Ah 0])) (fnS g)):Am 46 [Bf (fcT p),Bf (fcT q),.fn 77 [.ptr 0 0]] (fnS g) (.ret (.tup [Bf s,Ah 0])) (fnS g):=by
 have h1:=Jl hp hk
 have h2:=Jl hq hk
 unfold fcP J6 at *
 refine Ad Tryz.func46 rfl rfl (Nat.le_of_ble_eq_true rfl) rfl (Nat.le_refl _) ?_
 repeat' (first|refine rl0 ?_|refine rs0 ?_ ?_<;>intro h|fail)
 refine wp1 h1 ?_
 repeat' (first|refine rl0 ?_|refine rs0 ?_ ?_<;>intro h|fail)
 refine wp1 h2 ?_
 repeat' (first|refine rl0 ?_|refine rs0 ?_ ?_<;>intro h|fail)
 refine wcb (id:=0) hF rfl rfl rfl rfl rfl rfl rfl rfl (by repeat (first|exact Ae|refine Ab (Ac _) ?_)) rfl ?_
 repeat' (first|refine rl0 ?_|refine rs0 ?_ ?_<;>intro h|fail)
 rfl
theorem Ro (hp:Fit k p) (hq:Fit k q) (hr:Fit k r) (hk:k<=200) (hg:Am g [fcP p,fcP q] ⟨[],[]⟩ (.ret (fcP r)) ⟨[],[]⟩):Am 42 [Bf (fcT p),Bf (fcT q),.fn g []] ⟨[],[]⟩ (.ret (.tup [Bf (fcT r),Ah 0])) ⟨[],[]⟩:=by
 have h:=bothB_do hp hq hk (app1_do hr hk hg)
 generalize fcT r=s at *
 generalize fcT p=s1 at *
 generalize fcT q=s2 at *
 refine Ad Tryz.func42 rfl rfl (Nat.le_of_ble_eq_true rfl) rfl (Nat.le_refl _) ?_
 repeat' (first|refine rl0 ?_|refine rs0 ?_ ?_<;>intro h|fail)
 refine wcb (id:=0) h rfl rfl rfl rfl rfl rfl rfl rfl (by repeat (first|exact Ae|refine Ab (Ac _) ?_)) rfl ?_
 repeat' (first|refine rl0 ?_|refine rs0 ?_ ?_<;>intro h|fail)
 rfl
theorem qadd_do (hp:Fit k p) (hq:Fit k q) (hk:k<=90):Am 20 [Bf (fcT p),Bf (fcT q)] ⟨[],[]⟩ (.ret (.tup [Bf (fcT (addF p q)),Ah 0])) ⟨[],[]⟩:=by
 have h:=Ro (k:=2*k+1) (hp.mono (by omega)) (hq.mono (by omega)) ((Yh hp hq).mono (by omega)) (by omega) (Afn hp hq (by omega) (by omega))
 generalize fcT (addF p q)=s at *
 refine Ad Tryz.func20 rfl rfl (Nat.le_of_ble_eq_true rfl) rfl (Nat.le_refl _) ?_
 repeat' (first|refine rl0 ?_|refine rs0 ?_ ?_<;>intro h|fail)
 refine wp1 h ?_
 repeat' (first|refine rl0 ?_|refine rs0 ?_ ?_<;>intro h|fail)
 rfl
theorem Ah2 (hp:Fit k p) (hq:Fit k q) (hk:k<=90):Am 19 [Bf (fcT p),Bf (fcT q)] ⟨[],[]⟩ (.ret (.tup [Bf (fcT (subF p q)),Ah 0])) ⟨[],[]⟩:=by
 have h:=Ro (k:=2*k+1) (hp.mono (by omega)) (hq.mono (by omega)) ((Afu hp hq).mono (by omega)) (by omega) (Af1 hp hq (by omega) (by omega))
 generalize fcT (subF p q)=s at *
 refine Ad Tryz.func19 rfl rfl (Nat.le_of_ble_eq_true rfl) rfl (Nat.le_refl _) ?_
 repeat' (first|refine rl0 ?_|refine rs0 ?_ ?_<;>intro h|fail)
 refine wp1 h ?_
 repeat' (first|refine rl0 ?_|refine rs0 ?_ ?_<;>intro h|fail)
 rfl
theorem qmul_do (hp:Fit k p) (hq:Fit k q) (hk:k<=90):Am 21 [Bf (fcT p),Bf (fcT q)] ⟨[],[]⟩ (.ret (.tup [Bf (fcT (mulF p q)),Ah 0])) ⟨[],[]⟩:=by
 have h:=Ro (k:=2*k+1) (hp.mono (by omega)) (hq.mono (by omega)) ((Aft hp hq).mono (by omega)) (by omega) (Afw hp hq (by omega) (by omega))
 generalize fcT (mulF p q)=s at *
 refine Ad Tryz.func21 rfl rfl (Nat.le_of_ble_eq_true rfl) rfl (Nat.le_refl _) ?_
 repeat' (first|refine rl0 ?_|refine rs0 ?_ ?_<;>intro h|fail)
 refine wp1 h ?_
 repeat' (first|refine rl0 ?_|refine rs0 ?_ ?_<;>intro h|fail)
 rfl
theorem qdiv1_do (hp:Fit k p) (hq:Fit k q) (h0:q.1≠0) (hk:k<=90):Am 47 [fcP p,fcP q] ⟨[],[]⟩ (.ret (.tup [Bf (fcT (divF p q)),Ah 0])) ⟨[],[]⟩:=by
 have hs:=Aa1 q.1 q.2
 have hd:=Afq hp hq h0 (by omega) (by omega)
 have ht:=Aix ((Afr hp hq h0).mono (by omega:_<=2*k+1)) (by omega)
 have hz:Cp q.1 0≠0:=fun e=>h0 (Ks.1 e)
 generalize fcT (divF p q)=s at *
 unfold fcP J6 at *
 refine Ad Tryz.func47 rfl rfl (Nat.le_of_ble_eq_true rfl) rfl (Nat.le_refl _) ?_
 repeat' (first|refine rl0 ?_|refine rs0 ?_ ?_<;>intro h|fail)
 refine wp1 hs ?_
 repeat' (first|refine rl0 ?_|refine rs0 ?_ ?_<;>intro h|fail)
 ·exact absurd (of_decide_eq_true h) hz
 refine wp1 hd ?_
 repeat' (first|refine rl0 ?_|refine rs0 ?_ ?_<;>intro h|fail)
 refine wp1 ht ?_
 repeat' (first|refine rl0 ?_|refine rs0 ?_ ?_<;>intro h|fail)
 rfl
theorem qdiv_do (hp:Fit k p) (hq:Fit k q) (h0:q.1≠0) (hk:k<=90):Am 22 [Bf (fcT p),Bf (fcT q)] ⟨[],[]⟩ (.ret (.tup [Bf (fcT (divF p q)),Ah 0])) ⟨[],[]⟩:=by
 have h1:=Jl hp (by omega)
 have h2:=Jl hq (by omega)
 have h:=qdiv1_do hp hq h0 hk
 generalize fcT (divF p q)=s at *
 have hb:Am 46 [Bf (fcT p),Bf (fcT q),.fn 47 []] ⟨[],[]⟩ (.ret (.tup [Bf s,Ah 0])) ⟨[],[]⟩:=by
  unfold fcP J6 at *
  refine Ad Tryz.func46 rfl rfl (Nat.le_of_ble_eq_true rfl) rfl (Nat.le_refl _) ?_
  repeat' (first|refine rl0 ?_|refine rs0 ?_ ?_<;>intro h|fail)
  refine wp1 h1 ?_
  repeat' (first|refine rl0 ?_|refine rs0 ?_ ?_<;>intro h|fail)
  refine wp1 h2 ?_
  repeat' (first|refine rl0 ?_|refine rs0 ?_ ?_<;>intro h|fail)
  refine wp1 h ?_
  repeat' (first|refine rl0 ?_|refine rs0 ?_ ?_<;>intro h|fail)
  rfl
 refine Ad Tryz.func22 rfl rfl (Nat.le_of_ble_eq_true rfl) rfl (Nat.le_refl _) ?_
 repeat' (first|refine rl0 ?_|refine rs0 ?_ ?_<;>intro h|fail)
 refine wp1 hb ?_
 repeat' (first|refine rl0 ?_|refine rs0 ?_ ?_<;>intro h|fail)
 rfl
theorem qcmp_do (hp:Fit k p) (hq:Fit k q) (hk:k<=90):Am 23 [Bf (fcT p),Bf (fcT q)] ⟨[],[]⟩ (.ret (.tup [Ah (cmpF p q),Ah 0])) ⟨[],[]⟩:=by
 have h1:=Jl hp (by omega)
 have h2:=Jl hq (by omega)
 have h3:=Afp hp hq (by omega) (by omega)
 generalize cmpF p q=v at *
 have h:Am 52 [fcP p,fcP q] ⟨[],[]⟩ (.ret (.tup [Ah v,Ah 0])) ⟨[],[]⟩:=by
  unfold fcP J6 at *
  refine Ad Tryz.func52 rfl rfl (Nat.le_of_ble_eq_true rfl) rfl (Nat.le_refl _) ?_
  repeat' (first|refine rl0 ?_|refine rs0 ?_ ?_<;>intro h|fail)
  refine wp1 h3 ?_
  repeat' (first|refine rl0 ?_|refine rs0 ?_ ?_<;>intro h|fail)
  rfl
 have hb:Am 51 [Bf (fcT p),Bf (fcT q),.fn 52 []] ⟨[],[]⟩ (.ret (.tup [Ah v,Ah 0])) ⟨[],[]⟩:=by
  unfold fcP J6 at *
  refine Ad Tryz.func51 rfl rfl (Nat.le_of_ble_eq_true rfl) rfl (Nat.le_refl _) ?_
  repeat' (first|refine rl0 ?_|refine rs0 ?_ ?_<;>intro h|fail)
  refine wp1 h1 ?_
  repeat' (first|refine rl0 ?_|refine rs0 ?_ ?_<;>intro h|fail)
  refine wp1 h2 ?_
  repeat' (first|refine rl0 ?_|refine rs0 ?_ ?_<;>intro h|fail)
  refine wp1 h ?_
  repeat' (first|refine rl0 ?_|refine rs0 ?_ ?_<;>intro h|fail)
  rfl
 refine Ad Tryz.func23 rfl rfl (Nat.le_of_ble_eq_true rfl) rfl (Nat.le_refl _) ?_
 repeat' (first|refine rl0 ?_|refine rs0 ?_ ?_<;>intro h|fail)
 refine wp1 hb ?_
 repeat' (first|refine rl0 ?_|refine rs0 ?_ ?_<;>intro h|fail)
 rfl
end
section
variable {N:Nat} {ops:Array Oper} {rest:List Oper} {o:Oper} {F:Nat->PV} {S:PS} {q:WRes->Prop}
theorem Ad7 {t:TypeId} {x y:Operand} {l:List PV} {kd:IntKind} {j:Int} (p:PV) (hg:Ak ops F o=some true) (ho:o.op = .index t x y) (hk:(A4 t&&Nat.beq (tyi t).kind 3&&A4 (tyi t).elem && !(tyi (tyi t).elem).isRow)=true) (hx:evP F x = .agg l) (hy:evP F y = .d (.v (.int kd j))) (h0:0<=j/\j<(tyi t).len)
  (hl:l[j.toNat*(tyi (tyi t).elem).size]? = some p) (kk:WK Tryz.prog N ops rest (B8 N o.dst p F) S q):WK Tryz.prog N ops (o::rest) F S q:=by
 simp only [Bool.and_eq_true,Bool.not_eq_true'] at hk
 exact D8 hg (F7 ho (Fc t hk.1.1.1) (Nat.eq_of_beq_eq_true hk.1.1.2) (Fc _ hk.1.2) hx hy h0.1 h0.2 (.inr ⟨hk.2,hl⟩)) kk
end
section
variable (l m:List UInt8) (o:Nat) (a b c:Int) (ho:o<256) (p q:Ex) (vals:List Int) (hw:Am 12 [] ⟨[],[]⟩ (.ret (An true)) ⟨[],[]⟩)
  (hvals:Am 8 [.agg [Nu a,Nu b,Nu c]] ⟨[],[]⟩ (.ret (Cu vals)) ⟨[],[]⟩)
  (hm1:Am 13 [D5 (l.take 8),Ah 1] ⟨[],[]⟩ (.ret (exP p)) ⟨[],[]⟩) (hm2:Am 13 [D5 (m.take 8),Ah 1] ⟨[],[]⟩ (.ret (exP q)) ⟨[],[]⟩)
include ho hw hvals hm1 hm2
set_option maxHeartbeats 4000000 in
theorem Qx {t1 t2 t3 t4 e1 e2 e3:Int} {s1 s2 s3 s4:ByteArray} {y1 y2 y3 y4:Bool} (hx:Am 14 [exP p,Cu vals] ⟨[],[]⟩ (.ret (.tup [vlP t1 s1 y1,Ah e1])) ⟨[],[]⟩) (hy:Am 14 [exP q,Cu vals] ⟨[],[]⟩ (.ret (.tup [vlP t2 s2 y2,Ah e2])) ⟨[],[]⟩)
  (hop:Am 14 [exP (nd (7+((o % 10:Nat):Int)) [p,q]),Cu vals] ⟨[],[]⟩ (.ret (.tup [vlP t3 s3 y3,Ah 2])) ⟨[],[]⟩) (hng:Am 14 [exP (nd 5 [p]),Cu vals] ⟨[],[]⟩ (.ret (.tup [vlP t4 s4 y4,Ah e3])) ⟨[],[]⟩)
  (he:e1=2/\e3=2\/e1=0/\e2=2/\e3=0):Am 6 [D5 l,D5 m,.d (.v (.int .u8 o)),.agg [Nu a,Nu b,Nu c]] ⟨[],[]⟩ (.ret (An true)) ⟨[],[]⟩:=by
 rcases he with ⟨rfl,rfl⟩|⟨rfl,rfl,rfl⟩
 ·refine Ad Tryz.func6 rfl rfl (Nat.le_of_ble_eq_true rfl) rfl (Nat.le_refl _) ?_
  repeat' (first|refine rl2 ?_|refine rs2 ?_ ?_<;>intro h|fail)
  refine wp1 hw ?_
  repeat' (first|refine rl2 ?_|refine rs2 ?_ ?_<;>intro h|fail)
  refine wp1 hvals ?_
  repeat' (first|refine rl2 ?_|refine rs2 ?_ ?_<;>intro h|fail)
  refine b0w 12 (fun k=>Nat.beq k 12||Nat.beq k 13||Nat.beq k 14||Nat.beq k 15) (fun k=>Nat.beq k 12||Nat.beq k 13||Nat.beq k 14||Nat.beq k 15) [] [] (by dsimp only [mkE]) (by dsimp only [mkE,Fv,List.map]) ?_ ?_
  ·repeat' (first|refine rl7 ?_|refine rs7 ?_ ?_<;>intro h|fail)
   rw [Ad4]
   refine Ax hm1 ?_
   repeat' (first|refine rl7 ?_|refine rs7 ?_ ?_<;>intro h|fail)
   rw [Ad4]
   refine Ax hm2 ?_
   repeat' (first|refine rl7 ?_|refine rs7 ?_ ?_<;>intro h|fail)
   repeat' (first|refine rl2 ?_|refine rs2 ?_ ?_<;>intro h|fail)
   refine wst rfl rfl ⟨(by show (-9223372036854775808:Int)<=_;omega),(by show _<=(9223372036854775807:Int);omega)⟩ ?_
   repeat' (first|refine rl2 ?_|refine rs2 ?_ ?_<;>intro h|fail)
   refine wp1 hx ?_
   repeat' (first|refine rl2 ?_|refine rs2 ?_ ?_<;>intro h|fail)
   refine wp1 hy ?_
   repeat' (first|refine rl2 ?_|refine rs2 ?_ ?_<;>intro h|fail)
   refine wp1 (Jk _ p q) ?_
   repeat' (first|refine rl2 ?_|refine rs2 ?_ ?_<;>intro h|fail)
   refine wp1 hop ?_
   repeat' (first|refine rl2 ?_|refine rs2 ?_ ?_<;>intro h|fail)
   refine wp1 (Jj 5 p) ?_
   repeat' (first|refine rl2 ?_|refine rs2 ?_ ?_<;>intro h|fail)
   refine wp1 hng ?_
   repeat' (first|refine rl2 ?_|refine rs2 ?_ ?_<;>intro h|fail)
   rfl
  ·repeat' (first|refine rl7 ?_|refine rs7 ?_ ?_<;>intro h|fail)
   rw [Ad4]
   refine Ax hm1 ?_
   repeat' (first|refine rl7 ?_|refine rs7 ?_ ?_<;>intro h|fail)
   rw [Ad4]
   refine Ax hm2 ?_
   repeat' (first|refine rl7 ?_|refine rs7 ?_ ?_<;>intro h|fail)
   repeat' (first|refine rl2 ?_|refine rs2 ?_ ?_<;>intro h|fail)
   refine wst rfl rfl ⟨(by show (-9223372036854775808:Int)<=_;omega),(by show _<=(9223372036854775807:Int);omega)⟩ ?_
   repeat' (first|refine rl2 ?_|refine rs2 ?_ ?_<;>intro h|fail)
   refine wp1 hx ?_
   repeat' (first|refine rl2 ?_|refine rs2 ?_ ?_<;>intro h|fail)
   refine wp1 hy ?_
   repeat' (first|refine rl2 ?_|refine rs2 ?_ ?_<;>intro h|fail)
   refine wp1 (Jk _ p q) ?_
   repeat' (first|refine rl2 ?_|refine rs2 ?_ ?_<;>intro h|fail)
   refine wp1 hop ?_
   repeat' (first|refine rl2 ?_|refine rs2 ?_ ?_<;>intro h|fail)
   refine wp1 (Jj 5 p) ?_
   repeat' (first|refine rl2 ?_|refine rs2 ?_ ?_<;>intro h|fail)
   refine wp1 hng ?_
   repeat' (first|refine rl2 ?_|refine rs2 ?_ ?_<;>intro h|fail)
   rfl
 ·refine Ad Tryz.func6 rfl rfl (Nat.le_of_ble_eq_true rfl) rfl (Nat.le_refl _) ?_
  repeat' (first|refine rl2 ?_|refine rs2 ?_ ?_<;>intro h|fail)
  refine wp1 hw ?_
  repeat' (first|refine rl2 ?_|refine rs2 ?_ ?_<;>intro h|fail)
  refine wp1 hvals ?_
  repeat' (first|refine rl2 ?_|refine rs2 ?_ ?_<;>intro h|fail)
  refine b0w 12 (fun k=>Nat.beq k 12||Nat.beq k 13||Nat.beq k 14||Nat.beq k 15) (fun k=>Nat.beq k 12||Nat.beq k 13||Nat.beq k 14||Nat.beq k 15) [] [] (by dsimp only [mkE]) (by dsimp only [mkE,Fv,List.map]) ?_ ?_
  ·repeat' (first|refine rl7 ?_|refine rs7 ?_ ?_<;>intro h|fail)
   rw [Ad4]
   refine Ax hm1 ?_
   repeat' (first|refine rl7 ?_|refine rs7 ?_ ?_<;>intro h|fail)
   rw [Ad4]
   refine Ax hm2 ?_
   repeat' (first|refine rl7 ?_|refine rs7 ?_ ?_<;>intro h|fail)
   repeat' (first|refine rl2 ?_|refine rs2 ?_ ?_<;>intro h|fail)
   refine wst rfl rfl ⟨(by show (-9223372036854775808:Int)<=_;omega),(by show _<=(9223372036854775807:Int);omega)⟩ ?_
   repeat' (first|refine rl2 ?_|refine rs2 ?_ ?_<;>intro h|fail)
   refine wp1 hx ?_
   repeat' (first|refine rl2 ?_|refine rs2 ?_ ?_<;>intro h|fail)
   refine wp1 hy ?_
   repeat' (first|refine rl2 ?_|refine rs2 ?_ ?_<;>intro h|fail)
   refine wp1 (Jk _ p q) ?_
   repeat' (first|refine rl2 ?_|refine rs2 ?_ ?_<;>intro h|fail)
   refine wp1 hop ?_
   repeat' (first|refine rl2 ?_|refine rs2 ?_ ?_<;>intro h|fail)
   refine wp1 (Jj 5 p) ?_
   repeat' (first|refine rl2 ?_|refine rs2 ?_ ?_<;>intro h|fail)
   refine wp1 hng ?_
   repeat' (first|refine rl2 ?_|refine rs2 ?_ ?_<;>intro h|fail)
   rfl
  ·repeat' (first|refine rl7 ?_|refine rs7 ?_ ?_<;>intro h|fail)
   rw [Ad4]
   refine Ax hm1 ?_
   repeat' (first|refine rl7 ?_|refine rs7 ?_ ?_<;>intro h|fail)
   rw [Ad4]
   refine Ax hm2 ?_
   repeat' (first|refine rl7 ?_|refine rs7 ?_ ?_<;>intro h|fail)
   repeat' (first|refine rl2 ?_|refine rs2 ?_ ?_<;>intro h|fail)
   refine wst rfl rfl ⟨(by show (-9223372036854775808:Int)<=_;omega),(by show _<=(9223372036854775807:Int);omega)⟩ ?_
   repeat' (first|refine rl2 ?_|refine rs2 ?_ ?_<;>intro h|fail)
   refine wp1 hx ?_
   repeat' (first|refine rl2 ?_|refine rs2 ?_ ?_<;>intro h|fail)
   refine wp1 hy ?_
   repeat' (first|refine rl2 ?_|refine rs2 ?_ ?_<;>intro h|fail)
   refine wp1 (Jk _ p q) ?_
   repeat' (first|refine rl2 ?_|refine rs2 ?_ ?_<;>intro h|fail)
   refine wp1 hop ?_
   repeat' (first|refine rl2 ?_|refine rs2 ?_ ?_<;>intro h|fail)
   refine wp1 (Jj 5 p) ?_
   repeat' (first|refine rl2 ?_|refine rs2 ?_ ?_<;>intro h|fail)
   refine wp1 hng ?_
   repeat' (first|refine rl2 ?_|refine rs2 ?_ ?_<;>intro h|fail)
   rfl
set_option maxHeartbeats 8000000 in
theorem Acp {t3 e3 v:Int} {s1 s2 s3 s4 sa sb sm sd:ByteArray} {y3:Bool} (hx:Am 14 [exP p,Cu vals] ⟨[],[]⟩ (.ret (.tup [vlP 1 s1 false,Ah 0])) ⟨[],[]⟩) (hy:Am 14 [exP q,Cu vals] ⟨[],[]⟩ (.ret (.tup [vlP 1 s2 false,Ah 0])) ⟨[],[]⟩)
  (hop:Am 14 [exP (nd (7+((o % 10:Nat):Int)) [p,q]),Cu vals] ⟨[],[]⟩ (.ret (.tup [vlP t3 s3 y3,Ah e3])) ⟨[],[]⟩) (hng:Am 14 [exP (nd 5 [p]),Cu vals] ⟨[],[]⟩ (.ret (.tup [vlP 1 s4 false,Ah 0])) ⟨[],[]⟩)
  (hsub0:Am 19 [Bf ⟨#[48]⟩,Bf s1] ⟨[],[]⟩ (.ret (.tup [Bf s4,Ah 0])) ⟨[],[]⟩) (hadd:Am 20 [Bf s1,Bf s2] ⟨[],[]⟩ (.ret (.tup [Bf sa,Ah 0])) ⟨[],[]⟩) (hsub:Am 19 [Bf s1,Bf s2] ⟨[],[]⟩ (.ret (.tup [Bf sb,Ah 0])) ⟨[],[]⟩)
  (hmul:Am 21 [Bf s1,Bf s2] ⟨[],[]⟩ (.ret (.tup [Bf sm,Ah 0])) ⟨[],[]⟩) (hdiv:s2≠⟨#[48]⟩->Am 22 [Bf s1,Bf s2] ⟨[],[]⟩ (.ret (.tup [Bf sd,Ah 0])) ⟨[],[]⟩) (hcmp:Am 23 [Bf s1,Bf s2] ⟨[],[]⟩ (.ret (.tup [Ah v,Ah 0])) ⟨[],[]⟩)
  (r7:o % 10=0->t3=1/\s3=sa/\y3=false/\e3=0) (r8:o % 10=1->t3=1/\s3=sb/\y3=false/\e3=0) (r9:o % 10=2->t3=1/\s3=sm/\y3=false/\e3=0)
  (rz:o % 10=3->s2=⟨#[48]⟩->t3=0/\s3=⟨#[]⟩/\y3=false/\e3=2) (rd:o % 10=3->s2≠⟨#[48]⟩->t3=1/\s3=sd/\y3=false/\e3=0) (rc:4<=o % 10->t3=2/\s3=⟨#[]⟩/\y3=Xq (7+((o % 10:Nat):Int)) v/\e3=0) :
  Am 6 [D5 l,D5 m,.d (.v (.int .u8 o)),.agg [Nu a,Nu b,Nu c]] ⟨[],[]⟩ (.ret (An true)) ⟨[],[]⟩:=by
 refine Ad Tryz.func6 rfl rfl (Nat.le_of_ble_eq_true rfl) rfl (Nat.le_refl _) ?_
 repeat' (first|refine rl2 ?_|refine rs2 ?_ ?_<;>intro h|fail)
 refine wp1 hw ?_
 repeat' (first|refine rl2 ?_|refine rs2 ?_ ?_<;>intro h|fail)
 refine wp1 hvals ?_
 repeat' (first|refine rl2 ?_|refine rs2 ?_ ?_<;>intro h|fail)
 refine b0w 12 (fun k=>Nat.beq k 12||Nat.beq k 13||Nat.beq k 14||Nat.beq k 15) (fun k=>Nat.beq k 12||Nat.beq k 13||Nat.beq k 14||Nat.beq k 15) [] [] (by dsimp only [mkE]) (by dsimp only [mkE,Fv,List.map]) ?_ ?_
 ·repeat' (first|refine rl7 ?_|refine rs7 ?_ ?_<;>intro h|fail)
  rw [Ad4]
  refine Ax hm1 ?_
  repeat' (first|refine rl7 ?_|refine rs7 ?_ ?_<;>intro h|fail)
  rw [Ad4]
  refine Ax hm2 ?_
  repeat' (first|refine rl7 ?_|refine rs7 ?_ ?_<;>intro h|fail)
  repeat' (first|refine rl2 ?_|refine rs2 ?_ ?_<;>intro h|fail)
  refine wst rfl rfl ⟨(by show (-9223372036854775808:Int)<=_;omega),(by show _<=(9223372036854775807:Int);omega)⟩ ?_
  repeat' (first|refine rl2 ?_|refine rs2 ?_ ?_<;>intro h|fail)
  refine wp1 hx ?_
  repeat' (first|refine rl2 ?_|refine rs2 ?_ ?_<;>intro h|fail)
  refine wp1 hy ?_
  repeat' (first|refine rl2 ?_|refine rs2 ?_ ?_<;>intro h|fail)
  refine wp1 (Jk _ p q) ?_
  repeat' (first|refine rl2 ?_|refine rs2 ?_ ?_<;>intro h|fail)
  refine wp1 hop ?_
  repeat' (first|refine rl2 ?_|refine rs2 ?_ ?_<;>intro h|fail)
  refine wp1 (Jj 5 p) ?_
  repeat' (first|refine rl2 ?_|refine rs2 ?_ ?_<;>intro h|fail)
  refine wp1 hng ?_
  repeat' (first|refine rl2 ?_|refine rs2 ?_ ?_<;>intro h|fail)
  refine wp1 hsub0 ?_
  repeat' (first|refine rl2 ?_|refine rs2 ?_ ?_<;>intro h|fail)
  refine wneI (h:=B9 _ _ _) ?_
  repeat' (first|refine rl2 ?_|refine rs2 ?_ ?_<;>intro h|fail)
  ·obtain ⟨rfl,rfl,rfl,rfl⟩:=r7 (by have:=of_decide_eq_true h;omega)
   refine wp1 hadd ?_
   repeat' (first|refine rl2 ?_|refine rs2 ?_ ?_<;>intro h|fail)
   refine Py (h:=B9 _ _ _) ?_
   repeat' (first|refine rl2 ?_|refine rs2 ?_ ?_<;>intro h|fail)
   rfl
  ·obtain ⟨rfl,rfl,rfl,rfl⟩:=r8 (by have:=of_decide_eq_true h;omega)
   refine wp1 hsub ?_
   repeat' (first|refine rl2 ?_|refine rs2 ?_ ?_<;>intro h|fail)
   refine Py (h:=B9 _ _ _) ?_
   repeat' (first|refine rl2 ?_|refine rs2 ?_ ?_<;>intro h|fail)
   rfl
  ·obtain ⟨rfl,rfl,rfl,rfl⟩:=r9 (by have:=of_decide_eq_true h;omega)
   refine wp1 hmul ?_
   repeat' (first|refine rl2 ?_|refine rs2 ?_ ?_<;>intro h|fail)
   refine Py (h:=B9 _ _ _) ?_
   repeat' (first|refine rl2 ?_|refine rs2 ?_ ?_<;>intro h|fail)
   rfl
  ·rename_i h1 h0
   obtain ⟨rfl,rfl,rfl,rfl⟩:=rz (by have:=of_decide_eq_true h1;omega) (of_decide_eq_true h0)
   refine Py (h:=B9 _ _ _) ?_
   repeat' (first|refine rl2 ?_|refine rs2 ?_ ?_<;>intro h|fail)
   rfl
  ·rename_i h1 h0
   exact absurd (rz (by have:=of_decide_eq_true h1;omega) (of_decide_eq_true h0)).2.2.2 (of_decide_eq_false h)
  ·rename_i h0
   obtain ⟨rfl,rfl,rfl,rfl⟩:=rd (by have:=of_decide_eq_true h0;omega) (of_decide_eq_false h)
   refine wp1 (hdiv (of_decide_eq_false h)) ?_
   repeat' (first|refine rl2 ?_|refine rs2 ?_ ?_<;>intro h|fail)
   refine Py (h:=B9 _ _ _) ?_
   repeat' (first|refine rl2 ?_|refine rs2 ?_ ?_<;>intro h|fail)
   rfl
  rename_i h1 h2 h3
  have hge:4<=o % 10:=by
   have:=of_decide_eq_false h
   have:=of_decide_eq_false h1
   have:=of_decide_eq_false h2
   have:=of_decide_eq_false h3
   omega
  refine wp1 hcmp ?_
  repeat' (first|refine rl2 ?_|refine rs2 ?_ ?_<;>intro h|fail)
  have hd:o % 10=4\/o % 10=5\/o % 10=6\/o % 10=7\/o % 10=8\/o % 10=9:=by omega
  clear h h1 h2 h3 r7 r8 r9 rz rd
  rcases hd with e|e|e|e|e|e
  ·obtain ⟨rfl,rfl,hy3,rfl⟩:=rc hge
   rw [show (7+((o % 10:Nat):Int))=11 by omega,show Xq 11 v=(decide (v=0)) from rfl] at hy3
   subst hy3
   rw [show (7+(o:Int) % 10)=11 by omega]
   repeat' (first|refine rl2 ?_|refine rs2 ?_ ?_<;>intro h|fail)
   refine Ad7 (p := .d (.v (.bool (decide (v=0))))) rfl rfl rfl rfl rfl ⟨by decide,by decide⟩ rfl ?_
   repeat' (first|refine rl2 ?_|refine rs2 ?_ ?_<;>intro h|fail)
   refine Py (h:=B9 _ _ _) ?_
   repeat' (first|refine rl2 ?_|refine rs2 ?_ ?_<;>intro h|fail)
   rfl
  ·obtain ⟨rfl,rfl,hy3,rfl⟩:=rc hge
   rw [show (7+((o % 10:Nat):Int))=12 by omega,show Xq 12 v=(!decide (v=0)) from rfl] at hy3
   subst hy3
   rw [show (7+(o:Int) % 10)=12 by omega]
   repeat' (first|refine rl2 ?_|refine rs2 ?_ ?_<;>intro h|fail)
   refine Ad7 (p := .d (.v (.bool (!decide (v=0))))) rfl rfl rfl rfl rfl ⟨by decide,by decide⟩ rfl ?_
   repeat' (first|refine rl2 ?_|refine rs2 ?_ ?_<;>intro h|fail)
   refine Py (h:=B9 _ _ _) ?_
   repeat' (first|refine rl2 ?_|refine rs2 ?_ ?_<;>intro h|fail)
   rfl
  ·obtain ⟨rfl,rfl,hy3,rfl⟩:=rc hge
   rw [show (7+((o % 10:Nat):Int))=13 by omega,show Xq 13 v=(decide (v<0)) from rfl] at hy3
   subst hy3
   rw [show (7+(o:Int) % 10)=13 by omega]
   repeat' (first|refine rl2 ?_|refine rs2 ?_ ?_<;>intro h|fail)
   refine Ad7 (p := .d (.v (.bool (decide (v<0))))) rfl rfl rfl rfl rfl ⟨by decide,by decide⟩ rfl ?_
   repeat' (first|refine rl2 ?_|refine rs2 ?_ ?_<;>intro h|fail)
   refine Py (h:=B9 _ _ _) ?_
   repeat' (first|refine rl2 ?_|refine rs2 ?_ ?_<;>intro h|fail)
   rfl
  ·obtain ⟨rfl,rfl,hy3,rfl⟩:=rc hge
   rw [show (7+((o % 10:Nat):Int))=14 by omega,show Xq 14 v=(decide (v<=0)) from rfl] at hy3
   subst hy3
   rw [show (7+(o:Int) % 10)=14 by omega]
   repeat' (first|refine rl2 ?_|refine rs2 ?_ ?_<;>intro h|fail)
   refine Ad7 (p := .d (.v (.bool (decide (v<=0))))) rfl rfl rfl rfl rfl ⟨by decide,by decide⟩ rfl ?_
   repeat' (first|refine rl2 ?_|refine rs2 ?_ ?_<;>intro h|fail)
   refine Py (h:=B9 _ _ _) ?_
   repeat' (first|refine rl2 ?_|refine rs2 ?_ ?_<;>intro h|fail)
   rfl
  ·obtain ⟨rfl,rfl,hy3,rfl⟩:=rc hge
   rw [show (7+((o % 10:Nat):Int))=15 by omega,show Xq 15 v=(decide (0<v)) from rfl] at hy3
   subst hy3
   rw [show (7+(o:Int) % 10)=15 by omega]
   repeat' (first|refine rl2 ?_|refine rs2 ?_ ?_<;>intro h|fail)
   refine Ad7 (p := .d (.v (.bool (decide (0<v))))) rfl rfl rfl rfl rfl ⟨by decide,by decide⟩ rfl ?_
   repeat' (first|refine rl2 ?_|refine rs2 ?_ ?_<;>intro h|fail)
   refine Py (h:=B9 _ _ _) ?_
   repeat' (first|refine rl2 ?_|refine rs2 ?_ ?_<;>intro h|fail)
   rfl
  ·obtain ⟨rfl,rfl,hy3,rfl⟩:=rc hge
   rw [show (7+((o % 10:Nat):Int))=16 by omega,show Xq 16 v=(decide (0<=v)) from rfl] at hy3
   subst hy3
   rw [show (7+(o:Int) % 10)=16 by omega]
   repeat' (first|refine rl2 ?_|refine rs2 ?_ ?_<;>intro h|fail)
   refine Ad7 (p := .d (.v (.bool (decide (0<=v))))) rfl rfl rfl rfl rfl ⟨by decide,by decide⟩ rfl ?_
   repeat' (first|refine rl2 ?_|refine rs2 ?_ ?_<;>intro h|fail)
   refine Py (h:=B9 _ _ _) ?_
   repeat' (first|refine rl2 ?_|refine rs2 ?_ ?_<;>intro h|fail)
   rfl
 ·repeat' (first|refine rl7 ?_|refine rs7 ?_ ?_<;>intro h|fail)
  rw [Ad4]
  refine Ax hm1 ?_
  repeat' (first|refine rl7 ?_|refine rs7 ?_ ?_<;>intro h|fail)
  rw [Ad4]
  refine Ax hm2 ?_
  repeat' (first|refine rl7 ?_|refine rs7 ?_ ?_<;>intro h|fail)
  repeat' (first|refine rl2 ?_|refine rs2 ?_ ?_<;>intro h|fail)
  refine wst rfl rfl ⟨(by show (-9223372036854775808:Int)<=_;omega),(by show _<=(9223372036854775807:Int);omega)⟩ ?_
  repeat' (first|refine rl2 ?_|refine rs2 ?_ ?_<;>intro h|fail)
  refine wp1 hx ?_
  repeat' (first|refine rl2 ?_|refine rs2 ?_ ?_<;>intro h|fail)
  refine wp1 hy ?_
  repeat' (first|refine rl2 ?_|refine rs2 ?_ ?_<;>intro h|fail)
  refine wp1 (Jk _ p q) ?_
  repeat' (first|refine rl2 ?_|refine rs2 ?_ ?_<;>intro h|fail)
  refine wp1 hop ?_
  repeat' (first|refine rl2 ?_|refine rs2 ?_ ?_<;>intro h|fail)
  refine wp1 (Jj 5 p) ?_
  repeat' (first|refine rl2 ?_|refine rs2 ?_ ?_<;>intro h|fail)
  refine wp1 hng ?_
  repeat' (first|refine rl2 ?_|refine rs2 ?_ ?_<;>intro h|fail)
  refine wp1 hsub0 ?_
  repeat' (first|refine rl2 ?_|refine rs2 ?_ ?_<;>intro h|fail)
  refine wneI (h:=B9 _ _ _) ?_
  repeat' (first|refine rl2 ?_|refine rs2 ?_ ?_<;>intro h|fail)
  ·obtain ⟨rfl,rfl,rfl,rfl⟩:=r7 (by have:=of_decide_eq_true h;omega)
   refine wp1 hadd ?_
   repeat' (first|refine rl2 ?_|refine rs2 ?_ ?_<;>intro h|fail)
   refine Py (h:=B9 _ _ _) ?_
   repeat' (first|refine rl2 ?_|refine rs2 ?_ ?_<;>intro h|fail)
   rfl
  ·obtain ⟨rfl,rfl,rfl,rfl⟩:=r8 (by have:=of_decide_eq_true h;omega)
   refine wp1 hsub ?_
   repeat' (first|refine rl2 ?_|refine rs2 ?_ ?_<;>intro h|fail)
   refine Py (h:=B9 _ _ _) ?_
   repeat' (first|refine rl2 ?_|refine rs2 ?_ ?_<;>intro h|fail)
   rfl
  ·obtain ⟨rfl,rfl,rfl,rfl⟩:=r9 (by have:=of_decide_eq_true h;omega)
   refine wp1 hmul ?_
   repeat' (first|refine rl2 ?_|refine rs2 ?_ ?_<;>intro h|fail)
   refine Py (h:=B9 _ _ _) ?_
   repeat' (first|refine rl2 ?_|refine rs2 ?_ ?_<;>intro h|fail)
   rfl
  ·rename_i h1 h0
   obtain ⟨rfl,rfl,rfl,rfl⟩:=rz (by have:=of_decide_eq_true h1;omega) (of_decide_eq_true h0)
   refine Py (h:=B9 _ _ _) ?_
   repeat' (first|refine rl2 ?_|refine rs2 ?_ ?_<;>intro h|fail)
   rfl
  ·rename_i h1 h0
   exact absurd (rz (by have:=of_decide_eq_true h1;omega) (of_decide_eq_true h0)).2.2.2 (of_decide_eq_false h)
  ·rename_i h0
   obtain ⟨rfl,rfl,rfl,rfl⟩:=rd (by have:=of_decide_eq_true h0;omega) (of_decide_eq_false h)
   refine wp1 (hdiv (of_decide_eq_false h)) ?_
   repeat' (first|refine rl2 ?_|refine rs2 ?_ ?_<;>intro h|fail)
   refine Py (h:=B9 _ _ _) ?_
   repeat' (first|refine rl2 ?_|refine rs2 ?_ ?_<;>intro h|fail)
   rfl
  rename_i h1 h2 h3
  have hge:4<=o % 10:=by
   have:=of_decide_eq_false h
   have:=of_decide_eq_false h1
   have:=of_decide_eq_false h2
   have:=of_decide_eq_false h3
   omega
  refine wp1 hcmp ?_
  repeat' (first|refine rl2 ?_|refine rs2 ?_ ?_<;>intro h|fail)
  have hd:o % 10=4\/o % 10=5\/o % 10=6\/o % 10=7\/o % 10=8\/o % 10=9:=by omega
  clear h h1 h2 h3 r7 r8 r9 rz rd
  rcases hd with e|e|e|e|e|e
  ·obtain ⟨rfl,rfl,hy3,rfl⟩:=rc hge
   rw [show (7+((o % 10:Nat):Int))=11 by omega,show Xq 11 v=(decide (v=0)) from rfl] at hy3
   subst hy3
   rw [show (7+(o:Int) % 10)=11 by omega]
   repeat' (first|refine rl2 ?_|refine rs2 ?_ ?_<;>intro h|fail)
   refine Ad7 (p := .d (.v (.bool (decide (v=0))))) rfl rfl rfl rfl rfl ⟨by decide,by decide⟩ rfl ?_
   repeat' (first|refine rl2 ?_|refine rs2 ?_ ?_<;>intro h|fail)
   refine Py (h:=B9 _ _ _) ?_
   repeat' (first|refine rl2 ?_|refine rs2 ?_ ?_<;>intro h|fail)
   rfl
  ·obtain ⟨rfl,rfl,hy3,rfl⟩:=rc hge
   rw [show (7+((o % 10:Nat):Int))=12 by omega,show Xq 12 v=(!decide (v=0)) from rfl] at hy3
   subst hy3
   rw [show (7+(o:Int) % 10)=12 by omega]
   repeat' (first|refine rl2 ?_|refine rs2 ?_ ?_<;>intro h|fail)
   refine Ad7 (p := .d (.v (.bool (!decide (v=0))))) rfl rfl rfl rfl rfl ⟨by decide,by decide⟩ rfl ?_
   repeat' (first|refine rl2 ?_|refine rs2 ?_ ?_<;>intro h|fail)
   refine Py (h:=B9 _ _ _) ?_
   repeat' (first|refine rl2 ?_|refine rs2 ?_ ?_<;>intro h|fail)
   rfl
  ·obtain ⟨rfl,rfl,hy3,rfl⟩:=rc hge
   rw [show (7+((o % 10:Nat):Int))=13 by omega,show Xq 13 v=(decide (v<0)) from rfl] at hy3
   subst hy3
   rw [show (7+(o:Int) % 10)=13 by omega]
   repeat' (first|refine rl2 ?_|refine rs2 ?_ ?_<;>intro h|fail)
   refine Ad7 (p := .d (.v (.bool (decide (v<0))))) rfl rfl rfl rfl rfl ⟨by decide,by decide⟩ rfl ?_
   repeat' (first|refine rl2 ?_|refine rs2 ?_ ?_<;>intro h|fail)
   refine Py (h:=B9 _ _ _) ?_
   repeat' (first|refine rl2 ?_|refine rs2 ?_ ?_<;>intro h|fail)
   rfl
  ·obtain ⟨rfl,rfl,hy3,rfl⟩:=rc hge
   rw [show (7+((o % 10:Nat):Int))=14 by omega,show Xq 14 v=(decide (v<=0)) from rfl] at hy3
   subst hy3
   rw [show (7+(o:Int) % 10)=14 by omega]
   repeat' (first|refine rl2 ?_|refine rs2 ?_ ?_<;>intro h|fail)
   refine Ad7 (p := .d (.v (.bool (decide (v<=0))))) rfl rfl rfl rfl rfl ⟨by decide,by decide⟩ rfl ?_
   repeat' (first|refine rl2 ?_|refine rs2 ?_ ?_<;>intro h|fail)
   refine Py (h:=B9 _ _ _) ?_
   repeat' (first|refine rl2 ?_|refine rs2 ?_ ?_<;>intro h|fail)
   rfl
  ·obtain ⟨rfl,rfl,hy3,rfl⟩:=rc hge
   rw [show (7+((o % 10:Nat):Int))=15 by omega,show Xq 15 v=(decide (0<v)) from rfl] at hy3
   subst hy3
   rw [show (7+(o:Int) % 10)=15 by omega]
   repeat' (first|refine rl2 ?_|refine rs2 ?_ ?_<;>intro h|fail)
   refine Ad7 (p := .d (.v (.bool (decide (0<v))))) rfl rfl rfl rfl rfl ⟨by decide,by decide⟩ rfl ?_
   repeat' (first|refine rl2 ?_|refine rs2 ?_ ?_<;>intro h|fail)
   refine Py (h:=B9 _ _ _) ?_
   repeat' (first|refine rl2 ?_|refine rs2 ?_ ?_<;>intro h|fail)
   rfl
  ·obtain ⟨rfl,rfl,hy3,rfl⟩:=rc hge
   rw [show (7+((o % 10:Nat):Int))=16 by omega,show Xq 16 v=(decide (0<=v)) from rfl] at hy3
   subst hy3
   rw [show (7+(o:Int) % 10)=16 by omega]
   repeat' (first|refine rl2 ?_|refine rs2 ?_ ?_<;>intro h|fail)
   refine Ad7 (p := .d (.v (.bool (decide (0<=v))))) rfl rfl rfl rfl rfl ⟨by decide,by decide⟩ rfl ?_
   repeat' (first|refine rl2 ?_|refine rs2 ?_ ?_<;>intro h|fail)
   refine Py (h:=B9 _ _ _) ?_
   repeat' (first|refine rl2 ?_|refine rs2 ?_ ?_<;>intro h|fail)
   rfl
end
theorem sub_none {p:Fr} (hp:Red p):subF (0,1) p=Yt p:=by
 have hr:Red (Yt p):=⟨hp.1,by unfold Yt;rw [Int.natAbs_neg];exact hp.2⟩
 have h:=mkF_id hr
 unfold subF
 rw [show (0:Int)*p.2 + -p.1*1=(Yt p).1 by unfold Yt;omega,show (1:Int)*p.2=(Yt p).2 by unfold Yt;omega]
 exact h
theorem dec_some (n:Int):0<(Cw n).size:=by
 unfold Cw Lib.itoa
 split
 ·show 0<(45::Lib.decDigits n.natAbs).length
  simp
 ·show 0<(Lib.decDigits n.toNat).length
  exact List.length_pos_iff.2 (Uv _)
theorem fcT_zero {p:Fr} (hp:Red p):fcT p=⟨#[48]⟩<->p.1=0:=by
 constructor
 ·intro h
  unfold fcT at h
  split at h
  ·exact Zw (h.trans Ky.symm)
  ·have h1:=congrArg ByteArray.size h
   rw [ByteArray.size_append,ByteArray.size_append] at h1
   have h2:=dec_some p.1
   have h3:Dx.size=1:=rfl
   have h4:(⟨#[48]⟩:ByteArray).size=1:=rfl
   omega
 ·intro h
  have h1:=hp.2
  have h2:=hp.1
  rw [h] at h1
  have h3:p.2=1:=by simp at h1;omega
  unfold fcT
  rw [if_pos h3,h]
  exact Ky
theorem Ai6 {vals:List Int} (h:wellV vals):Uc vals:=by
 obtain ⟨x,y,z,rfl,hx,hy,hz⟩:=h
 intro v hv
 simp only [List.mem_cons,List.not_mem_nil,or_false] at hv
 rcases hv with rfl|rfl|rfl<;>omega
theorem Nr {vals:List Int} {x:Ex} (hx:Good x) (hn:Bl x<=60) (hh:x.hgt<=12) (hv:wellV vals) {k:Int} (hk:A9 Fx x=k) (h0:k≠0):evR Fx vals x=match evX Fx vals x with
  |none=>((0,⟨#[]⟩,false),2)
  |some r=>if k=2 then ((2,⟨#[]⟩,r.2),0) else ((1,fcT r.1,false),0):=by
 obtain ⟨h1,h2⟩:=Ad1 hv
 unfold evR
 rw [if_neg (by rw [Acl hx hn hh];simp),if_neg (by rw [h2,show Fx.length=3 from rfl,h1];simp),hk,if_neg h0]
 all_goals rfl
theorem Acq (l m:List UInt8) (o:Nat) (a b c:Int) (ho:o<256) (ha : -32768<=a/\a<=32767) (hb : -32768<=b/\b<=32767) (hc : -32768<=c/\c<=32767) (hw:Am 12 [] ⟨[],[]⟩ (.ret (An true)) ⟨[],[]⟩) :
  Am 6 [D5 l,D5 m,.d (.v (.int .u8 o)),.agg [Nu a,Nu b,Nu c]] ⟨[],[]⟩ (.ret (An true)) ⟨[],[]⟩:=by
 have hvals:=rvals_do a b c ha hb hc
 have hv:wellV (Aib a b c):=⟨_,_,_,rfl,F9 a,F9 b,F9 c⟩
 generalize Aib a b c=vals at *
 have hl8:(l.take 8).length<=8:=List.length_take_le _ _
 have hm8:(m.take 8).length<=8:=List.length_take_le _ _
 have hm1:=Agl (l.take 8) 1
 have hm2:=Agl (m.take 8) 1
 have gp:=Vy (l.take 8) 1
 have gq:=Vy (m.take 8) 1
 have kp:=Vz (l.take 8) (want:=1) (.inl rfl)
 have kq:=Vz (m.take 8) (want:=1) (.inl rfl)
 have np:=Aas (l.take 8) 1 hl8
 have nq:=Aas (m.take 8) 1 hm8
 have tp:=Aat (l.take 8) 1 hl8
 have tq:=Aat (m.take 8) 1 hm8
 generalize Sf (l.take 8) 1=p at *
 generalize Sf (m.take 8) 1=q at *
 have n1:∀ o x,Bl (nd o [x])=Bl x+1:=fun o x=>by rw [nd,A7,Bg,Cb];omega
 have n2:∀ o x y,Bl (nd o [x,y])=Bl x+Bl y+1:=fun o x y=>by rw [nd,A7,Bg,Bg,Cb];omega
 have t1:∀ o x,(nd o [x]).hgt=x.hgt+1:=fun o x=>by rw [hgt_nd,Io,Ib];omega
 have t2:∀ o x y,(nd o [x,y]).hgt=max x.hgt y.hgt+1:=fun o x y=>by rw [hgt_nd,Io,Io,Ib];omega
 have kN:A9 Fx (nd 5 [p])=1:=by rw [Hv,Bp,Bp,kp];rfl
 have gN:Good (nd 5 [p]) := .neg _ gp
 have o7:7<=7+((o % 10:Nat):Int):=by omega
 have o16:7+((o % 10:Nat):Int)<=16:=by omega
 have gO:Good (nd (7+((o % 10:Nat):Int)) [p,q]) := .bin _ _ _ o7 (by omega) gp gq
 have kO:A9 Fx (nd (7+((o % 10:Nat):Int)) [p,q])=isZ (7+((o % 10:Nat):Int)):=by
  rw [Hv,if_neg (by omega),if_neg (by omega),Bp,Bp,Bp,kp,kq,show G0 (7+((o % 10:Nat):Int))=1 by unfold G0;rw [if_neg (by omega)]]
  rfl
 have kO0:isZ (7+((o % 10:Nat):Int))≠0:=by unfold isZ;split<;>omega
 have vx:=Sd p vals (Jc gp)
 have vy:=Sd q vals (Jc gq)
 have vO:=Sd _ vals (Jc gO)
 have vN:=Sd _ vals (Jc gN)
 have eO:=Nr gO (by rw [n2];omega) (by rw [t2];omega) hv kO kO0
 rw [Nr gp (by omega) (by omega) hv kp (by omega)] at vx
 rw [Nr gN (by rw [n1];omega) (by rw [t1];omega) hv kN (by omega),Afh] at vN
 rw [Afi _ _ _ o7 o16] at eO
 cases hP:evX Fx vals p with
 |none =>
  rw [hP] at vx vN eO
  rw [eO] at vO
  exact Qx l m o a b c ho p q vals hw hvals hm1 hm2 vx vy vO vN (.inl ⟨rfl,rfl⟩)
 |some r =>
  rw [hP] at vx vN eO
  rw [Nr gq (by omega) (by omega) hv kq (by omega)] at vy
  cases hQ:evX Fx vals q with
  |none =>
   rw [hQ] at vy eO
   rw [eO] at vO
   exact Qx l m o a b c ho p q vals hw hvals hm1 hm2 vx vy vO vN (.inr ⟨rfl,rfl,rfl⟩)
  |some t =>
   rw [hQ] at vy eO
   have fp:Fit 25 r.1:=((Me (Ai6 hv) gp (by omega) r hP).1 kp).1.mono np
   have fq:Fit 25 t.1:=((Me (Ai6 hv) gq (by omega) t hQ).1 kq).1.mono nq
   have f0:Fit 25 ((0,1):Fr):=(Oq 0 (by decide)).mono (by omega)
   have hsub0:=Ah2 f0 fp (by omega)
   rw [sub_none fp.red,show fcT (0,1)=⟨#[48]⟩ from Ky] at hsub0
   have hz:=fcT_zero fq.red
   have hdiv:fcT t.1≠⟨#[48]⟩->Am 22 [Bf (fcT r.1),Bf (fcT t.1)] ⟨[],[]⟩ (.ret (.tup [Bf (fcT (divF r.1 t.1)),Ah 0])) ⟨[],[]⟩:=fun h=>qdiv_do fp fq (fun e=>h (hz.2 e)) (by omega)
   have hA:o % 10<4->¬(o % 10=3/\t.1.1=0)->evR Fx vals (nd (7+((o % 10:Nat):Int)) [p,q])=((1,fcT (Ab8 (7+((o % 10:Nat):Int)) r.1 t.1),false),0):=by
    intro h1 h2
    rw [eO]
    simp only [Option.bind_some]
    unfold twoR
    rw [if_neg (by omega),if_neg (by omega)]
    dsimp only
    rw [if_neg (by unfold isZ;rw [if_neg (by omega)];omega)]
   exact Acp l m o a b c ho p q vals hw hvals hm1 hm2 vx vy vO vN hsub0 (qadd_do fp fq (by omega)) (Ah2 fp fq (by omega)) (qmul_do fp fq (by omega)) hdiv (qcmp_do fp fq (by omega))
    (fun h=>by rw [hA (by omega) (by omega),show Ab8 (7+((o % 10:Nat):Int)) r.1 t.1=addF r.1 t.1 by unfold Ab8;rw [if_pos (by omega)]];exact ⟨rfl,rfl,rfl,rfl⟩)
    (fun h=>by rw [hA (by omega) (by omega),show Ab8 (7+((o % 10:Nat):Int)) r.1 t.1=subF r.1 t.1 by unfold Ab8;rw [if_neg (by omega),if_pos (by omega)]];exact ⟨rfl,rfl,rfl,rfl⟩)
    (fun h=>by rw [hA (by omega) (by omega),show Ab8 (7+((o % 10:Nat):Int)) r.1 t.1=mulF r.1 t.1 by unfold Ab8;rw [if_neg (by omega),if_neg (by omega),if_pos (by omega)]];exact ⟨rfl,rfl,rfl,rfl⟩)
    (fun h e=>by
     rw [eO]
     simp only [Option.bind_some]
     unfold twoR
     rw [if_neg (by omega),if_pos ⟨by omega,hz.1 e⟩]
     exact ⟨rfl,rfl,rfl,rfl⟩)
    (fun h e=>by rw [hA (by omega) (fun h'=>e (hz.2 h'.2)),show Ab8 (7+((o % 10:Nat):Int)) r.1 t.1=divF r.1 t.1 by unfold Ab8;rw [if_neg (by omega),if_neg (by omega),if_neg (by omega)]];exact ⟨rfl,rfl,rfl,rfl⟩)
    (fun h=>by
     rw [eO]
     simp only [Option.bind_some]
     unfold twoR
     rw [if_pos (by omega)]
     dsimp only
     rw [if_pos (by unfold isZ;rw [if_pos (by omega)])]
     exact ⟨rfl,rfl,rfl,rfl⟩)
end Go.Proofs.YtjagmmmcibdibaaGreatDoor
